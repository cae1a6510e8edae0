/- What the proof needs of LOrd: only what is used is left (wip/tools/prune.py). Conditions stand in each sentence. -/
import Derived.Test.YtioahkblhekgpaaGreatDoorQOPureAdmitFlat
import Derived.Test.YtioahkblhekgpaaGreatDoorQOCnt
set_option linter.unusedVariables false
set_option linter.unusedSimpArgs false
namespace Go.Proofs.YtioahkblhekgpaaGreatDoor.E
end Go.Proofs.YtioahkblhekgpaaGreatDoor.E
namespace Go.Proofs.YtioahkblhekgpaaGreatDoor.FltP
end Go.Proofs.YtioahkblhekgpaaGreatDoor.FltP
namespace Go.Proofs.YtioahkblhekgpaaGreatDoor.O
end Go.Proofs.YtioahkblhekgpaaGreatDoor.O
namespace Go.Proofs.YtioahkblhekgpaaGreatDoor.R
end Go.Proofs.YtioahkblhekgpaaGreatDoor.R
namespace Go.Proofs.YtioahkblhekgpaaGreatDoorW.PrintLast
end Go.Proofs.YtioahkblhekgpaaGreatDoorW.PrintLast
namespace Go.Proofs.YtioahkblhekgpaaGreatDoorW.PrintMore
end Go.Proofs.YtioahkblhekgpaaGreatDoorW.PrintMore
namespace Go.Proofs.YtioahkblhekgpaaGreatDoorW.PrintWords
end Go.Proofs.YtioahkblhekgpaaGreatDoorW.PrintWords
namespace Go.Proofs.YtioahkblhekgpaaGreatDoor.Adm
open Go.RowKit Go.Proofs.YtioahkblhekgpaaGreatDoor.FltP Go.Proofs.YtioahkblhekgpaaGreatDoor.R Go.Proofs.YtioahkblhekgpaaGreatDoor.E Go.Proofs.YtioahkblhekgpaaGreatDoor.O Go.Proofs.YtioahkblhekgpaaGreatDoorW.PrintWords Go.Proofs.YtioahkblhekgpaaGreatDoorW.PrintLast Go.Proofs.YtioahkblhekgpaaGreatDoorW.PrintMore
theorem works_call (w : World) : Calls Tryz.prog 23 #[] w fun e w' => e = .returned (.bool true) ∧ Below w.heap.size w w' := MAdmitFlat.trivetlaw07_works.calls true w Pure.works_f
set_option maxRecDepth 100000 in
set_option maxHeartbeats 4000000 in
theorem lawOrder_bad (A : Option Addr) (c : Nat) (l : List S) (w : World) (hl : Kd.C k32 w A l.length l) (hc : l.length ≤ c) (hw : Wd l) (hb : 200 < l.length ∨ (allF l).2 ≠ 0) :
    Calls Tryz.prog 5 #[.slice A l.length c] w fun e w' => e = .returned (.bool true) ∧ Below w.heap.size w w' := by
  have ha := all_calls A c l w hl hc hw
  have hwk := works_call
  by_cases h1 : 200 < l.length
  · have d1 : decide ((200 : Int) < (l.length : Int)) = true := by simp; omega
    have d2 : decide (200 < l.length) = true := by simp; omega
    go_enter Tryz.func5, Tryz.ntmps5
    go_wp2_with (first | (go_at_call 12; (with_reducible refine ha.mono ?_); rintro u w1 ⟨rfl, hb1⟩) | (go_at_call 23; (with_reducible refine (hwk _).mono ?_); first | (rintro u w2 ⟨rfl, hb2⟩; have hB2 := hb1.trans (hb2.mono hb1.size); clear hb1) | (rintro u w3 ⟨rfl, hb3⟩; have hB3 := hB2.trans (hb3.mono hB2.size))))
    go_ret
    exact ⟨rfl, hB3⟩
  · have d1 : decide ((200 : Int) < (l.length : Int)) = false := by simp; omega
    have d2 : decide (200 < l.length) = false := by simp; omega
    have h3 : (allF l).2 ≠ 0 := hb.elim (fun h => absurd h h1) id
    have e1 : ((allF l).2 != 0) = true := bne_iff_ne.mpr h3
    have e2 : ((allF l).2 == 0) = false := beq_eq_false_iff_ne.mpr h3
    generalize (allF l).2 = e at *
    generalize (allF l).1 = at_ at *
    go_enter Tryz.func5, Tryz.ntmps5
    go_wp2_with (first | (go_at_call 12; (with_reducible refine ha.mono ?_); rintro u w1 ⟨rfl, hb1⟩) | (go_at_call 23; (with_reducible refine (hwk _).mono ?_); first | (rintro u w2 ⟨rfl, hb2⟩; have hB2 := hb1.trans (hb2.mono hb1.size); clear hb1) | (rintro u w3 ⟨rfl, hb3⟩; have hB3 := hB2.trans (hb3.mono hB2.size))))
    go_ret
    exact ⟨rfl, hB3⟩
structure Sn (wr w4 : World) (l : List S) (g cap k : Nat) (xs : List Int) : Prop where
  row : Kd.R (Kd.int .i64) 3 wr w4.heap.size (fun b => b = g) (.slice (some ⟨g, 0, none⟩) l.length cap) xs
  bel : Below w4.heap.size w4 wr
  seen : Pure.Seen l (orderN l) k xs
  gge : w4.heap.size ≤ g
theorem Sn.below {wr w4 W : World} {l : List S} {g cap k : Nat} {xs : List Int} (h : Sn wr w4 l g cap k xs) (hb : Below wr.heap.size wr W) : Sn W w4 l g cap k xs :=
  { h with row := Kd.R_below h.row hb, bel := h.bel.trans (hb.mono h.bel.size) }
theorem Sn.put {wr w4 : World} {l : List S} {g cap k : Nat} {xs : List Int} (h : Sn wr w4 l g cap k xs) (hk : k < (orderN l).length) (ha : (orderN l).getD k 0 < l.length) : Sn (wr.setCell ⟨g, (orderN l).getD k 0, none⟩ (.int .i64 1)) w4 l g cap (k + 1) (xs.set ((orderN l).getD k 0) 1) where
  row := by have := Kd.R_putn h.row (((orderN l).getD k 0 : Nat) : Int) 1; rw [Int.toNat_natCast] at this; exact this
  bel := h.bel.setCell (by show w4.heap.size ≤ g; exact h.gge) _
  seen := Pure.seen_step h.seen hk ha
  gge := h.gge
theorem Sn.cell {wr w4 : World} {l : List S} {g cap k : Nat} {xs : List Int} (h : Sn wr w4 l g cap k xs) {a : Nat} (ha : a < l.length) : wr.cell? ⟨g, a, none⟩ = some (.int .i64 (rd xs (a : Int))) ∧ wr.frozen? ⟨g, a, none⟩ = false := by
  have := Kd.R_celln (0 : Int) h.row (a : Int) (by omega) (by omega)
  simpa [rdOf, rd, List.getD_eq_getElem?_getD] using this
theorem six_below {w w1 : World} {p1 p2 p3 p4 p5 p6 : Addr} {v1 v2 v3 v4 v5 v6 : Value} (hb : Below w.heap.size w w1) (h : w.cell? p1 = some v1 ∧ w.cell? p2 = some v2 ∧ w.cell? p3 = some v3 ∧ w.cell? p4 = some v4 ∧ w.cell? p5 = some v5 ∧ w.cell? p6 = some v6) :
    w1.cell? p1 = some v1 ∧ w1.cell? p2 = some v2 ∧ w1.cell? p3 = some v3 ∧ w1.cell? p4 = some v4 ∧ w1.cell? p5 = some v5 ∧ w1.cell? p6 = some v6 :=
  ⟨bcell hb h.1, bcell hb h.2.1, bcell hb h.2.2.1, bcell hb h.2.2.2.1, bcell hb h.2.2.2.2.1, bcell hb h.2.2.2.2.2⟩
theorem cmp_call {l : List S} {a b : Nat} (hw : Wd l) (hg : ∀ x ∈ l, gp x = true) (ha : a < l.length) (hb : b < l.length) (w : World) :
    Calls Tryz.prog 25 #[.agg #[.float .f64 (rd_T32 l (a : Int)).f0, .float .f64 (rd_T32 l (a : Int)).f1], .agg #[.float .f64 (rd_T32 l (b : Int)).f0, .float .f64 (rd_T32 l (b : Int)).f1]] w fun e w' => e = .returned (.int .i64 (holdAt l a b)) ∧ Below w.heap.size w w' := by
  obtain ⟨k, hk⟩ := (Pure.cmp_at hw hg ha hb).rounds
  exact admit_Cmp.calls k _ _ _ _ _ w hk
set_option maxRecDepth 100000 in
set_option maxHeartbeats 4000000 in
theorem lawOrder_good (A : Option Addr) (c : Nat) (l : List S) (w : World) (hl : Kd.C k32 w A l.length l) (hc : l.length ≤ c) (hw : Wd l) (h1 : l.length ≤ 200) (h0 : 0 < l.length) (h3 : (allF l).2 = 0) :
    Calls Tryz.prog 5 #[.slice A l.length c] w fun e w' => e = .returned (.bool true) ∧ Below w.heap.size w w' := by
  have ha := all_calls A c l w hl hc hw
  have hwk := works_call
  have hor := fun W h => order_calls A c l W h hc hw
  have htw := fun W h => twins_calls A c l W h hc hw
  have hun := fun W h => unlike_calls A c l W h hc hw
  have d1 : decide ((200 : Int) < (l.length : Int)) = false := by simp; omega
  have d2 : decide (200 < l.length) = false := by simp; omega
  have e1 : ((allF l).2 != 0) = false := by rw [h3]; rfl
  have e2 : ((allF l).2 == 0) = true := by rw [h3]; rfl
  unfold ordAll at hor
  unfold twAll at htw
  rw [if_pos h3] at hor htw
  rw [h3] at ha
  have ol := (orderN_sorted l).length
  have hzo : (zi (orderN l)).length = l.length := (List.length_map ..).trans ol
  have hzt : (zi (Pure.tws l)).length = l.length := (List.length_map ..).trans (Pure.tws_len l)
  change ∀ W h, Calls _ _ _ _ (fun e w' => ∃ v, _ ∧ Kd.R _ _ _ _ _ v (zi (Pure.tws l)) ∧ _) at htw
  have hl8 : ((l.length : Nat) : Int).toNat * 8 ≤ 281474976710656 := by omega
  clear e1 e2
  have b1 : ((l.length : Int) != (l.length : Int)) = false := bne_self_eq_false _
  go_enter Tryz.func5, Tryz.ntmps5
  go_wp2_with (first | (go_at_call 12; (with_reducible refine ha.mono ?_); rintro u w1 ⟨rfl, hb1⟩) | (go_at_call 23; (with_reducible refine (hwk _).mono ?_); (rintro u w2 ⟨rfl, hb2⟩; have hB2 := hb1.trans (hb2.mono hb1.size); clear hb1)) | (go_at_call 14; (with_reducible refine (hor _ (Kd.C_below hl hB2)).mono ?_); rintro u w3 ⟨v3, rfl, hR3, hb3⟩; obtain ⟨A3, c3, rfl, hle3, hC3⟩ := Kd.R_reads hR3; rw [hzo] at hC3 hle3; have hB3 := hB2.trans (hb3.mono hB2.size)) | (go_at_call 15; (with_reducible refine (htw _ (Kd.C_below hl hB3)).mono ?_); rintro u w4 ⟨v4, rfl, hR4, hb4⟩; obtain ⟨A4, c4, rfl, hle4, hC4⟩ := Kd.R_reads hR4; rw [hzt] at hC4 hle4; have hB4 := hB3.trans (hb4.mono hB3.size)) | ((with_reducible refine gate_dst (N := 48) rfl ?_); refine Kd.R_make (Kd.int .i64) _ 3 rfl (N := 48) rfl 26 _ _ rfl (l.length : Int) rfl rfl Tryz.underlying26 (.int .i64 0) 8 infoI rfl (by decide) (by omega) (0 : Int) (ok := fun _ => True) (okp := fun _ => True) rfl (fun _ hk => hk) trivial (by omega) hl8 (Below.refl _ _) (Nat.le_refl _) ?_; intro v5 w5 ho1 hb5 hg1 hnew1))
  obtain ⟨g, cap, rfl, hgB, hS, -⟩ := Kd.R_form ho1 (by simp; omega)
  have T0 : Sn w5 w4 l g cap 0 (List.replicate l.length 0) := by
    have e : (List.replicate (l.length : Int).toNat (0 : Int)).length = l.length := by simp
    rw [e, Int.toNat_natCast] at ho1
    exact ⟨Kd.R_flat (fun h => h) ho1 (fun k hk _ => by simp [Value.ownBlock] at hk; exact hk.symm), hb5, ⟨by simp, fun v hv => by simp [rd, List.getD_eq_getElem?_getD, hv]⟩, hgB⟩
  have e : (List.replicate (l.length : Int).toNat (0 : Int)).length = l.length := by simp
  rw [e]
  clear ho1 hb5 hg1 hnew1 e
  go_loopw [8] (fun i wr => ∃ (k : Nat) (xs : List Int), k ≤ l.length ∧ i = .int .i64 k ∧ Sn wr w4 l g cap k xs) (fun i _ => l.length - (intOf i).toNat)
  case atStart => exact ⟨0, _, Nat.zero_le _, rfl, T0⟩
  case round =>
    obtain ⟨k, xs, hk, rfl, T⟩ := hrel
    by_cases hlt : k < l.length
    · have ha : (orderN l).getD k 0 < l.length := ((orderN_sorted l).2 _).mp (Pure.getD_mem (by omega))
      have hz : rd xs (((orderN l).getD k 0 : Nat) : Int) = 0 := by rw [T.seen.2 _ ha, if_neg (Pure.not_before (Geo.lt_nodup (orderN_sorted l).1) (by omega))]
      have hcell := T.cell ha
      rw [hz] at hcell
      have T1 := T.put (by omega) ha
      have hCo := Kd.C_below hC3 (hb4.trans (T.bel.mono hb4.size))
      obtain ⟨ad, rfl, ho⟩ := Kd.at_int hCo k (by omega) (by omega)
      rw [Int.toNat_natCast, Pure.rd_zi (by omega)] at ho
      have d3 : decide ((k : Int) < (l.length : Int)) = true := by simp; omega
      have d4 : decide (k < l.length) = true := by simp; omega
      generalize hav : (orderN l).getD k 0 = a at *
      have d5 : decide ((a : Int) < 0) = false := by simp
      have d6 : decide ((l.length : Int) ≤ (a : Int)) = false := by simp; omega
      have d7 : decide (l.length ≤ a) = false := by simp; omega
      have d8 : decide (a < l.length) = true := by simp; omega
      have d9 : decide ((a : Int) < (l.length : Int)) = true := by simp; omega
      by_cases hk0 : k = 0
      · have d10 : decide ((0 : Int) < (k : Int)) = false := by simp; omega
        have d11 : decide (0 < k) = false := by simp; omega
        have HK0 := Aside0.mk hk0
        clear hk0
        go_wp2
        exact ⟨⟨k + 1, _, by omega, by go_num, T1⟩, by simp [intOf]; omega⟩
      · obtain ⟨j, hj⟩ : ∃ j, k = j + 1 := ⟨k - 1, by omega⟩
        have d10 : decide ((0 : Int) < (k : Int)) = true := by simp; omega
        have d11 : decide (0 < k) = true := by simp; omega
        have hgd : ∀ x ∈ l, gp x = true := ((allF_ok l).mp h3).2
        have hb : (orderN l).getD j 0 < l.length := ((orderN_sorted l).2 _).mp (Pure.getD_mem (by omega))
        have hpw : IntKind.i64.wrap ((k : Int) - 1) = (j : Int) := by simp only [IntKind.wrap]; simp [IntKind.signed, IntKind.bits]; omega
        have hcc := cmp_call hw hgd hb ha
        have hlt2 : Geo.Lt (PT l) ((orderN l).getD j 0) a := by
          have := (List.pairwise_iff_getElem.mp (orderN_sorted l).1) j k (by omega) (by omega) (by omega)
          rw [← hav, List.getD_eq_getElem?_getD, List.getElem?_eq_getElem (by omega), List.getD_eq_getElem?_getD, List.getElem?_eq_getElem (by omega)]
          exact this
        have HJ := Aside0.mk hj
        clear hj
        have hCo1 := Kd.C_below hC3 (hb4.trans (T1.bel.mono hb4.size))
        have hl1 := Kd.C_below hl (hB4.trans (T1.bel.mono hB4.size))
        go_wp2
        generalize hW1 : wr.setCell ⟨g, a, none⟩ (.int .i64 1) = W1 at *
        have HW := Aside0.mk hW1
        clear hW1
        obtain ⟨od, hod, o1⟩ := Kd.at_int hCo1 k (by omega) (by have := HJ.out; omega)
        injection hod with hod
        subst hod
        obtain ⟨od, hod, o0⟩ := Kd.at_int hCo1 j (by omega) (by have := HJ.out; omega)
        injection hod with hod
        subst hod
        rw [Int.toNat_natCast, Pure.rd_zi (by have := HJ.out; omega)] at o0 o1
        rw [hav] at o1
        generalize (orderN l).getD j 0 = b at *
        obtain ⟨ld, rfl, x0, x1⟩ := at_T32 hl1 b (by omega) (by omega)
        obtain ⟨ld', hld, y0, y1⟩ := at_T32 hl1 a (by omega) (by omega)
        injection hld with hld
        subst hld
        rw [Int.toNat_natCast] at x0 x1 y0 y1
        have hiff := holdAt_iff l b a
        have hcases : ∃ z : Bool, (holdAt l b a == 0) = z ∧ decide (0 < holdAt l b a) = false ∧ (z = true → decide ((a : Int) ≤ (b : Int)) = false ∧ decide (a ≤ b) = false) := by
          rcases hlt2 with hlt2 | ⟨he, hlt2⟩
          · have := hiff.1.mpr hlt2
            exact ⟨false, beq_eq_false_iff_ne.mpr (by omega), decide_eq_false (by omega), fun h => by cases h⟩
          · have := hiff.2.mpr he
            exact ⟨true, by rw [this]; rfl, by rw [this]; rfl, fun _ => ⟨decide_eq_false (by omega), decide_eq_false (by omega)⟩⟩
        generalize holdAt l b a = h at *
        generalize rd_T32 l (b : Int) = x at *
        generalize rd_T32 l (a : Int) = y at *
        have dj1 : decide ((j : Int) < (l.length : Int)) = true := by have := HJ.out; simp; omega
        have dj2 : decide (j < l.length) = true := by have := HJ.out; simp; omega
        have lj : j < l.length := by have := HJ.out; omega
        have HAV := Aside0.mk hav
        clear hav
        have db1 : decide ((b : Int) < (l.length : Int)) = true := by simp; omega
        have db2 : decide (b < l.length) = true := by simp; omega
        have hS : W1.cell? (ad.add k) = some (.int .i64 a) ∧ W1.cell? (ad.add j) = some (.int .i64 b) ∧ W1.cell? (ld.add (b * 2)) = some (.float .f64 x.f0) ∧ W1.cell? ⟨(ld.add (b * 2)).block, (ld.add (b * 2)).off + 1, none⟩ = some (.float .f64 x.f1) ∧ W1.cell? (ld.add (a * 2)) = some (.float .f64 y.f0) ∧ W1.cell? ⟨(ld.add (a * 2)).block, (ld.add (a * 2)).off + 1, none⟩ = some (.float .f64 y.f1) := ⟨o1, o0, x0, x1, y0, y1⟩
        go_region_held (fun w' => w'.cell? (ad.add k) = some (.int .i64 a) ∧ w'.cell? (ad.add j) = some (.int .i64 b) ∧ w'.cell? (ld.add (b * 2)) = some (.float .f64 x.f0) ∧ w'.cell? ⟨(ld.add (b * 2)).block, (ld.add (b * 2)).off + 1, none⟩ = some (.float .f64 x.f1) ∧ w'.cell? (ld.add (a * 2)) = some (.float .f64 y.f0) ∧ w'.cell? ⟨(ld.add (a * 2)).block, (ld.add (a * 2)).off + 1, none⟩ = some (.float .f64 y.f1))
          (first | exact hS | (exact six_below (by assumption) (by assumption)))
          (first | (go_at_call 25; (with_reducible refine (hcc _).mono ?_); rintro o w6 ⟨rfl, hb6⟩))
        rename_i hH
        have T6 := (T1.below (((Below.refl _ _).drew).trans hb6))
        obtain ⟨z, hz0, hz1, hz2⟩ := hcases
        clear hiff hcc
        obtain ⟨o1', o0', -, -, -, -⟩ := hH
        clear hS x0 x1 y0 y1
        cases z
        · clear hz2
          go_wp2
          go_quiet (fail)
          go_wp2
          exact ⟨⟨k + 1, _, by omega, by go_num, T6.below (pw_below_drewN (Below.refl _ _) _)⟩, by simp [intOf]; omega⟩
        · obtain ⟨hz3, hz4⟩ := hz2 rfl
          clear hz2
          go_wp2
          go_quiet (fail)
          go_wp2
          exact ⟨⟨k + 1, _, by omega, by go_num, T6.below (pw_below_drewN (Below.refl _ _) _)⟩, by simp [intOf]; omega⟩
    · obtain rfl : k = l.length := by omega
      have d3 : decide ((l.length : Int) < (l.length : Int)) = false := by simp
      have d4 : decide (l.length < l.length) = false := by simp
      have hb5 := T.bel
      have hCt := Kd.C_below hC4 hb5
      have hB5 := hB4.trans (hb5.mono hB4.size)
      clear T
      go_wp2
      go_loopw [10, 11] (fun u i wq => ∃ k : Nat, k ≤ l.length ∧ i = .int .i64 k ∧ u = .int .i64 (Pure.cnt l k : Nat) ∧ Below wr.heap.size wr wq) (fun _ i _ => l.length - (intOf i).toNat)
      case atStart => exact ⟨0, Nat.zero_le _, rfl, rfl, Below.refl _ _⟩
      case round =>
        obtain ⟨k, hk, rfl, rfl, hq⟩ := hrel
        by_cases hlt : k < l.length
        · have hCq := Kd.C_below hCt hq
          have hlq := Kd.C_below hl (hB5.trans (hq.mono hB5.size))
          have ht := Pure.tw_lt hlt
          have hle := (tw_spec (PT l) k).1
          have htt : tw (PT l) (tw (PT l) k) = tw (PT l) k := Pure.tw_same.mpr (tw_spec (PT l) k).2.1
          have hcs := Pure.cnt_succ l k
          have hcl := Pure.cnt_le l k
          obtain ⟨td, rfl, t1⟩ := Kd.at_int hCq k (by omega) (by omega)
          obtain ⟨td', htd, t2⟩ := Kd.at_int hCq (tw (PT l) k : Nat) (by omega) (by omega)
          injection htd with htd
          subst htd
          rw [Int.toNat_natCast, Pure.tws_at hlt] at t1
          rw [Int.toNat_natCast, Pure.tws_at ht, htt] at t2
          have HCS := Aside0.mk hcs
          have HTT := Aside0.mk htt
          clear hcs htt
          generalize htk : tw (PT l) k = ti at *
          have HTK := Aside0.mk htk
          clear htk
          have e1 : decide ((k : Int) < (l.length : Int)) = true := by simp; omega
          have e2 : decide (k < l.length) = true := by simp; omega
          have e3 : decide ((ti : Int) < 0) = false := by simp
          have e4 : decide ((k : Int) < (ti : Int)) = false := by simp; omega
          have e5 : decide (k < ti) = false := by simp; omega
          have e6 : decide ((ti : Int) < (l.length : Int)) = true := by simp; omega
          have e7 : decide (ti < l.length) = true := by simp; omega
          have e8 : ((ti : Int) != (ti : Int)) = false := bne_self_eq_false _
          have hcw : IntKind.i64.wrap (((Pure.cnt l k : Nat) : Int) + 1) = ((Pure.cnt l k : Nat) : Int) + 1 := by
            have : k ≤ 200 := by omega
            simp only [IntKind.wrap]; simp [IntKind.signed, IntKind.bits]; omega
          have hzz : ∃ z : Bool, ((ti : Int) == (k : Int)) = z ∧ ((Pure.cnt l (k + 1) : Nat) : Int) = if z = true then ((Pure.cnt l k : Nat) : Int) + 1 else ((Pure.cnt l k : Nat) : Int) := by
            have h1 := HCS.out
            by_cases hek : ti = k
            · exact ⟨true, by rw [hek]; exact beq_self_eq_true _, by rw [h1, if_pos hek, if_pos rfl]; omega⟩
            · exact ⟨false, beq_eq_false_iff_ne.mpr (by omega), by rw [h1, if_neg hek, if_neg (by decide)]; omega⟩
          obtain ⟨z, e9, hz1⟩ := hzz
          have HZ := Aside0.mk hz1
          clear hz1
          generalize hcv : ((Pure.cnt l k : Nat) : Int) = cv at *
          have HCV := Aside0.mk hcv
          clear hcv
          have hlq2 : ∀ W, Below wr.heap.size wr W → Kd.C k32 W A l.length l := fun W hb => Kd.C_below hlq hb
          have hCq2 : ∀ W, Below wr.heap.size wr W → Kd.C (Kd.int .i64) W (some td) l.length (zi (Pure.tws l)) := fun W hb => Kd.C_below hCq hb
          have HLQ := Aside0.mk hlq2
          have HCQ := Aside0.mk hCq2
          clear hlq2 hCq2
          have hgd : ∀ x ∈ l, gp x = true := ((allF_ok l).mp h3).2
          have HGD := Aside0.mk hgd
          clear hgd
          have HQ := Aside0.mk hq
          clear hq
          cases z
          all_goals
            go_wp2
            go_quiet (fail)
            go_wp2
            go_loopw [12] (fun i wq => ∃ j : Nat, j ≤ k ∧ i = .int .i64 j ∧ Below wr.heap.size wr wq) (fun i _ => k - (intOf i).toNat)
            case atStart => exact ⟨0, Nat.zero_le _, rfl, pw_below_drewN (Below.refl _ _) _⟩
            case round =>
              obtain ⟨j, hj, rfl, hq3⟩ := hrel
              by_cases hjt : j < k
              · have hj2 : tw (PT l) j < l.length := Pure.tw_lt (by omega)
                have hCi := HCQ.out _ hq3
                have hli := HLQ.out _ hq3
                obtain ⟨td', htd, s1⟩ := Kd.at_int hCi k (by omega) (by omega)
                injection htd with htd
                subst htd
                obtain ⟨td', htd, s2⟩ := Kd.at_int hCi j (by omega) (by omega)
                injection htd with htd
                subst htd
                rw [Int.toNat_natCast, Pure.tws_at hlt, HTK.out] at s1
                rw [Int.toNat_natCast, Pure.tws_at (by omega)] at s2
                obtain ⟨ld, rfl, x0, x1⟩ := at_T32 hli k (by omega) (by omega)
                obtain ⟨ld', hld, y0, y1⟩ := at_T32 hli j (by omega) (by omega)
                injection hld with hld
                subst hld
                rw [Int.toNat_natCast] at x0 x1 y0 y1
                have hcc := cmp_call hw HGD.out hlt (show j < l.length by omega)
                have hii := (holdAt_iff l k j).2
                have hts := @Pure.tw_same (PT l) k j
                rw [HTK.out] at hts
                have heq : ((ti : Int) == ((tw (PT l) j : Nat) : Int)) = (holdAt l k j == 0) := by
                  rw [Bool.eq_iff_iff, beq_iff_eq, beq_iff_eq, hii, ← hts]
                  omega
                have hbe : ((holdAt l k j == 0) != (holdAt l k j == 0)) = false := bne_self_eq_false _
                clear hii hts
                generalize tw (PT l) j = tj at *
                generalize holdAt l k j = h at *
                generalize rd_T32 l (k : Int) = x at *
                generalize rd_T32 l (j : Int) = y at *
                have f1 : decide ((j : Int) < (k : Int)) = true := by simp; omega
                have f2 : decide (j < k) = true := by simp; omega
                have f3 : decide ((j : Int) < (l.length : Int)) = true := by simp; omega
                have f4 : decide (j < l.length) = true := by simp; omega
                have lj : j < l.length := by omega
                go_wp2
                have hS : wr.cell? (td.add k) = some (.int .i64 ti) ∧ wr.cell? (td.add j) = some (.int .i64 tj) ∧ wr.cell? (ld.add (k * 2)) = some (.float .f64 x.f0) ∧ wr.cell? ⟨(ld.add (k * 2)).block, (ld.add (k * 2)).off + 1, none⟩ = some (.float .f64 x.f1) ∧ wr.cell? (ld.add (j * 2)) = some (.float .f64 y.f0) ∧ wr.cell? ⟨(ld.add (j * 2)).block, (ld.add (j * 2)).off + 1, none⟩ = some (.float .f64 y.f1) := ⟨s1, s2, x0, x1, y0, y1⟩
                go_region_held (fun w' => w'.cell? (td.add k) = some (.int .i64 ti) ∧ w'.cell? (td.add j) = some (.int .i64 tj) ∧ w'.cell? (ld.add (k * 2)) = some (.float .f64 x.f0) ∧ w'.cell? ⟨(ld.add (k * 2)).block, (ld.add (k * 2)).off + 1, none⟩ = some (.float .f64 x.f1) ∧ w'.cell? (ld.add (j * 2)) = some (.float .f64 y.f0) ∧ w'.cell? ⟨(ld.add (j * 2)).block, (ld.add (j * 2)).off + 1, none⟩ = some (.float .f64 y.f1))
                  (first | exact hS | (exact six_below (by assumption) (by assumption)))
                  (first | (go_at_call 25; (with_reducible refine (hcc _).mono ?_); rintro o w6 ⟨rfl, hb6⟩))
                go_wp2
                exact ⟨⟨j + 1, by omega, by go_num, hq3.trans (Below.mono (((Below.refl _ _).drew).trans hb6) hq3.size)⟩, by simp [intOf]; omega⟩
              · obtain rfl : j = k := by omega
                have f1 : decide ((j : Int) < (j : Int)) = false := by simp
                have f2 : decide (j < j) = false := by simp
                go_wp2
                exact ⟨⟨j + 1, by omega, by go_num, by rw [HZ.out]; rfl, HQ.out.trans (hq3.mono HQ.out.size)⟩, by simp [intOf]; omega⟩
        · obtain rfl : k = l.length := by omega
          have hwu := hun _ (Kd.C_below hl (hB5.trans (hq.mono hB5.size)))
          have hcn : (zi (unlAll l)).length = Pure.cnt l l.length := (List.length_map ..).trans (Pure.cnt_all h3)
          go_wp2_with (go_at_call 16; (with_reducible refine hwu.mono ?_); rintro u w7 ⟨v7, rfl, hR7, hb7⟩; obtain ⟨A7, c7, rfl, hle7, hC7⟩ := Kd.R_reads hR7; rw [hcn])
          go_ret
          exact ⟨by simp, hB5.trans ((hq.mono hB5.size).trans (hb7.mono (Nat.le_trans hB5.size hq.size)))⟩
set_option maxRecDepth 100000 in
set_option maxHeartbeats 4000000 in
theorem lawOrder_zero (A : Option Addr) (c : Nat) (w : World) (hl : Kd.C k32 w A 0 []) :
    Calls Tryz.prog 5 #[.slice A 0 c] w fun e w' => e = .returned (.bool true) ∧ Below w.heap.size w w' := by
  have hw : Wd [] := fun x hx => absurd hx List.not_mem_nil
  have h3 : (allF []).2 = 0 := by decide
  have h30 : (allF []).1 = 0 := by decide
  have ha := all_calls A c [] w hl (Nat.zero_le _) hw
  have hwk := works_call
  have hor := fun W h => order_calls A c [] W h (Nat.zero_le _) hw
  have htw := fun W h => twins_calls A c [] W h (Nat.zero_le _) hw
  have hun := fun W h => unlike_calls A c [] W h (Nat.zero_le _) hw
  have o0 : ordAll [] = [] := by
    unfold ordAll; rw [if_pos h3]
    exact List.length_eq_zero_iff.mp (orderN_sorted []).length
  have t0 : twAll [] = [] := by unfold twAll; rw [if_pos h3]; rfl
  have u0 : unlAll [] = [] := by
    rw [unlAll_eq h3, List.length_eq_zero_iff.mp (orderN_sorted []).length]; rfl
  rw [o0] at hor
  rw [t0] at htw
  rw [u0] at hun
  rw [h3, h30] at ha
  have z0 : zi [] = [] := rfl
  rw [z0] at hor htw hun
  clear o0 t0 u0 z0 h3 h30
  simp only [List.length_nil] at ha hor htw hun
  go_enter Tryz.func5, Tryz.ntmps5
  go_wp2_with (first | (go_at_call 12; (with_reducible refine ha.mono ?_); rintro u w1 ⟨rfl, hb1⟩) | (go_at_call 23; (with_reducible refine (hwk _).mono ?_); (rintro u w2 ⟨rfl, hb2⟩; have hB2 := hb1.trans (hb2.mono hb1.size); clear hb1)) | (go_at_call 14; (with_reducible refine (hor _ (Kd.C_below hl hB2)).mono ?_); rintro u w3 ⟨v3, rfl, hR3, hb3⟩; obtain ⟨A3, c3, rfl, hle3, hC3⟩ := Kd.R_reads hR3; have hB3 := hB2.trans (hb3.mono hB2.size)) | (go_at_call 15; (with_reducible refine (htw _ (Kd.C_below hl hB3)).mono ?_); rintro u w4 ⟨v4, rfl, hR4, hb4⟩; obtain ⟨A4, c4, rfl, hle4, hC4⟩ := Kd.R_reads hR4; have hB4 := hB3.trans (hb4.mono hB3.size)) | ((with_reducible refine gate_dst (N := 48) rfl ?_); refine Kd.R_make (Kd.int .i64) _ 3 rfl (N := 48) rfl 26 _ _ rfl (0 : Int) rfl rfl Tryz.underlying26 (.int .i64 0) 8 infoI rfl (by decide) (by omega) (0 : Int) (ok := fun _ => True) (okp := fun _ => True) rfl (fun _ hk => hk) trivial (by omega) (by decide) (Below.refl _ _) (Nat.le_refl _) ?_; intro v5 w5 ho1 hb5 hg1 hnew1; have hB5 := hB4.trans (hb5.mono hB4.size)))
  obtain ⟨A5, c5, rfl⟩ := Kd.R_slice ho1
  refine wp_loop_rounds 1 ?_
  rw [rounds_succ]
  go_wp2
  refine wp_loop_rounds 1 ?_
  rw [rounds_succ]
  have hwu := hun _ (Kd.C_below hl hB5)
  go_wp2_with (go_at_call 16; (with_reducible refine hwu.mono ?_); rintro u w7 ⟨v7, rfl, hR7, hb7⟩; obtain ⟨A7, c7, rfl, hle7, hC7⟩ := Kd.R_reads hR7)
  go_ret
  exact ⟨by simp, hB5.trans (hb7.mono hB5.size)⟩
theorem lawOrder (A : Option Addr) (c : Nat) (l : List S) (w : World) (hl : Kd.C k32 w A l.length l) (hc : l.length ≤ c) (hw : Wd l) :
    Calls Tryz.prog 5 #[.slice A l.length c] w fun e w' => e = .returned (.bool true) ∧ Below w.heap.size w w' := by
  by_cases hb : 200 < l.length ∨ (allF l).2 ≠ 0
  · exact lawOrder_bad A c l w hl hc hw hb
  · by_cases h0 : 0 < l.length
    · exact lawOrder_good A c l w hl hc hw (by omega) h0 (by omega)
    · obtain rfl : l = [] := List.length_eq_zero_iff.mp (by omega)
      exact lawOrder_zero A c w hl
end Go.Proofs.YtioahkblhekgpaaGreatDoor.Adm
