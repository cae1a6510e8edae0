/- What the proof needs of Hct: only what is used is left (wip/tools/prune.py). Conditions stand in each sentence. -/
import Derived.Deep.RegionHeld3
import Derived.Deep.QuietTactic
import Derived.BigQuiet
import Derived.Test.YtioahkblhekgpaaGreatDoorQHHlb
set_option linter.unusedVariables false
set_option linter.unusedSimpArgs false
namespace Go.Proofs.YtioahkblhekgpaaGreatDoor.E
end Go.Proofs.YtioahkblhekgpaaGreatDoor.E
namespace Go.Proofs.YtioahkblhekgpaaGreatDoor.FltP
end Go.Proofs.YtioahkblhekgpaaGreatDoor.FltP
namespace Go.Proofs.YtioahkblhekgpaaGreatDoor.O
end Go.Proofs.YtioahkblhekgpaaGreatDoor.O
namespace Go.Proofs.YtioahkblhekgpaaGreatDoor.R
end Go.Proofs.YtioahkblhekgpaaGreatDoor.R
namespace Go.Proofs.YtioahkblhekgpaaGreatDoorW.PrintLast
end Go.Proofs.YtioahkblhekgpaaGreatDoorW.PrintLast
namespace Go.Proofs.YtioahkblhekgpaaGreatDoorW.PrintMore
end Go.Proofs.YtioahkblhekgpaaGreatDoorW.PrintMore
namespace Go.Proofs.YtioahkblhekgpaaGreatDoorW.PrintWords
end Go.Proofs.YtioahkblhekgpaaGreatDoorW.PrintWords
namespace Go.Proofs.YtioahkblhekgpaaGreatDoor.Adm
open Go.RowKit Go.Proofs.YtioahkblhekgpaaGreatDoor.FltP Go.Proofs.YtioahkblhekgpaaGreatDoor.R Go.Proofs.YtioahkblhekgpaaGreatDoor.E Go.Proofs.YtioahkblhekgpaaGreatDoor.O Go.Proofs.YtioahkblhekgpaaGreatDoorW.PrintWords Go.Proofs.YtioahkblhekgpaaGreatDoorW.PrintLast Go.Proofs.YtioahkblhekgpaaGreatDoorW.PrintMore
def cornersAll (l : List S) : List S := (hullAll l false).map fun i => norm (at_ l i)
def CorPost (l : List S) (w : World) (e : Ending) (w' : World) : Prop := ∃ v : Value, e = .returned (.tuple #[v, .bool (decide ((allF l).2 = 0))]) ∧ Kd.R k32 32 w' w.heap.size (fun _ => True) v (cornersAll l) ∧ Below w.heap.size w w'
set_option maxRecDepth 100000 in
set_option maxHeartbeats 4000000 in
theorem corners_bad (A : Option Addr) (c : Nat) (l : List S) (w : World) (hl : Kd.C k32 w A l.length l) (hc : l.length ≤ c) (hw : Wd l) (h0 : (allF l).2 ≠ 0) :
    Calls Tryz.prog 41 #[.slice A l.length c] w (CorPost l w) := by
  have hh := hull_calls A c l w hl hc hw
  have e1 : ((allF l).2 != 0) = true := bne_iff_ne.mpr h0
  have e2 : ((allF l).2 == 0) = false := beq_eq_false_iff_ne.mpr h0
  have hca : cornersAll l = [] := by unfold cornersAll hullAll; rw [if_pos h0]; rfl
  have HD := Aside0.mk (And.intro (decide_eq_false h0) hca)
  clear hc h0 hca
  go_enter Tryz.func41, Tryz.ntmps41
  go_wp2_with (go_at_call 32; (with_reducible refine hh.mono ?_); rintro u w1 ⟨v1, rfl, hR1, hb1⟩)
  refine bodyPost_ret (v := .tuple #[.slice none 0 0, .bool false]) (by simp [results, Tryz.results41, go_sem]) rfl ⟨_, by rw [HD.out.1], ?_, hb1⟩
  rw [HD.out.2]
  exact Kd.R_nil ..
set_option maxRecDepth 100000 in
set_option maxHeartbeats 4000000 in
theorem corners_good (A : Option Addr) (c : Nat) (l : List S) (w : World) (hl : Kd.C k32 w A l.length l) (hc : l.length ≤ c) (hw : Wd l) (h0 : (allF l).2 = 0) :
    Calls Tryz.prog 41 #[.slice A l.length c] w (CorPost l w) := by
  have hh := hull_calls A c l w hl hc hw
  have HC := Aside0.mk hc
  clear hc
  go_enter Tryz.func41, Tryz.ntmps41
  go_wp2_with (go_at_call 32; (with_reducible refine hh.mono ?_); rintro u w1 ⟨v1, rfl, hR1, hb1⟩; obtain ⟨A1, c1, rfl, hle1, hC1⟩ := Kd.R_reads hR1; rw [zi_length] at hC1 hle1 ⊢; rw [h0]; clear hh hR1)
  have hlt := @hull_lt l false
  have hgp : ∀ x ∈ l, gp x = true := ((allF_ok l).mp h0).2
  have hln := hull_len l false h0
  have hul := Pure.unl_len h0
  have h20 := ((allF_ok l).mp h0).1
  have hcl : (cornersAll l).length = (hullAll l false).length := List.length_map ..
  have hca : ∀ k, k < (hullAll l false).length → (cornersAll l).take (k + 1) = (cornersAll l).take k ++ [norm (at_ l ((hullAll l false).getD k 0))] := fun k hk => by
    rw [List.take_add_one, List.getElem?_eq_getElem (by omega)]
    unfold cornersAll
    rw [List.getElem_map, List.getD_eq_getElem?_getD, List.getElem?_eq_getElem hk]
    rfl
  have HCA := Aside0.mk (And.intro hcl hca)
  have HH0 := Aside0.mk h0
  clear hcl hca h0
  generalize hullAll l false = h at *
  obtain ⟨n, hn⟩ : ∃ n, n = h.length := ⟨_, rfl⟩
  rw [← hn] at hC1 hle1 hln ⊢
  go_loopw [6, 7] (fun v6 v7 wr => ∃ k : Nat, k ≤ n ∧ v7 = .int .i64 k ∧ Kd.R k32 32 wr w1.heap.size (fun _ => True) v6 ((cornersAll l).take k) ∧ Below w1.heap.size w1 wr) (fun _ v7 _ => n - (intOf v7).toNat)
  case atStart => exact ⟨0, Nat.zero_le _, rfl, Kd.R_nil .., Below.refl _ _⟩
  case round =>
    obtain ⟨k, hk, rfl, hR, hB⟩ := hrel
    by_cases hkl : k < n
    · have hxl := getD_lt hlt (by omega : k < h.length)
      obtain ⟨qb, qo, rfl, hq⟩ := row_at hC1 (by omega)
      have q0 := hq k hkl
      rw [rd, Int.toNat_natCast, List.getD_eq_getElem?_getD, zi_get (by omega)] at q0
      obtain ⟨ab, ao, rfl, hz⟩ := pts_at (Kd.C_below hl hb1) (by omega)
      obtain ⟨a0, a1⟩ := hz _ hxl
      have ga := gp_good (hgp _ (rd_at hxl))
      have hst := HCA.out.2 k (by omega)
      have hlk : ((cornersAll l).take k).length = k := by rw [List.length_take, HCA.out.1]; omega
      clear hq hz
      unfold at_ at hst
      generalize h.getD k 0 = x at *
      generalize rd_T32 l (x : Int) = a at *
      have f0 := (plus0_ok ga.1.1).1
      have f1 := (plus0_ok ga.2.1).1
      have hno : norm a = ⟨plus0 a.f0, plus0 a.f1⟩ := rfl
      rw [hno] at hst
      have g1 := fun w_ => run_float_arith (P := Tryz.prog) w_ .add 30 .f64 a.f0 0 _ f0
      have g2 := fun w_ => run_float_arith (P := Tryz.prog) w_ .add 30 .f64 a.f1 0 _ f1
      clear f0 f1
      generalize plus0 a.f0 = z0 at *
      generalize plus0 a.f1 = z1 at *
      have HX := Aside0.mk (And.intro q0 (And.intro a0 a1))
      have HST := Aside0.mk hst
      have HN := Aside0.mk hn
      have HLK := Aside0.mk hlk
      have d1 : decide ((k : Int) < (n : Int)) = true := by simp; omega
      have d2 : decide (k < n) = true := by simp; omega
      have d5 : decide ((x : Int) < (l.length : Int)) = true := by simp; omega
      have d6 : decide (x < l.length) = true := by simp; omega
      have i1 : IntKind.i64.wrap ((k : Int) + 1) = (k : Int) + 1 := wrapI _ (by omega) (by omega)
      have hS : wr.cell? ⟨qb, qo + k, none⟩ = some (.int .i64 x) ∧ wr.cell? ⟨ab, ao + x * 2, none⟩ = some (.float .f64 a.f0) ∧ wr.cell? ⟨ab, ao + x * 2 + 1, none⟩ = some (.float .f64 a.f1) := three_below hB HX.out
      clear hst hn hno ga q0 a0 a1 hlk
      generalize (cornersAll l).take k = xs at *
      go_upto_region 8 with (fail)
      go_region_held3 (fun W' => W'.cell? ⟨qb, qo + k, none⟩ = some (.int .i64 x) ∧ W'.cell? ⟨ab, ao + x * 2, none⟩ = some (.float .f64 a.f0) ∧ W'.cell? ⟨ab, ao + x * 2 + 1, none⟩ = some (.float .f64 a.f1))
        (first | exact hS | (refine three_below ?_ HX.out; (with_reducible (repeat (first | assumption | apply below_drew1 | apply below_alloc | apply pw_below_drewN)))))
        (first
          | (go_at_call 63; (with_reducible refine (at_call _ _ _).mono ?_); rintro u w5 ⟨rfl, hb5⟩; have hB5 := below_step (w := w1) (by (with_reducible (repeat (first | exact Below.refl _ _ | exact hB | apply below_drew1 | apply below_alloc | apply pw_below_drewN | assumption)))) hb5; (first | (have hR5 := Kd.R_below hR hb5) | (have hR5 := Kd.R_below (Kd.R_drew hR) hb5)); clear hb5)
          | (refine Kd.R_append_rows_step k32 (w0 := w1) w1.heap.size (by rfl) (.tmp 21) (.tmp 41) 22 32 (.agg #[(.float .f64 0), (.float .f64 0)]) 16 rfl Tryz.underlying22 E.info32 rfl (by decide) (by omega) u6 xs [⟨z0, z1⟩] _ _ _ (fun _ => True) (fun _ => False) rfl rfl ?aO ?aR (fun _ _ h => h) (fun _ h => h.elim) (fun _ _ => trivial) ?aB ?aS ?aL ?_
             (case aO => exact Kd.R_alloc hR5 _)
             (case aR => exact lit_C (t := 32) [⟨z0, z1⟩] rfl (heap_alloc_new _ _) rfl (by decide))
             (case aB => (with_reducible (repeat (first | assumption | apply below_drew1 | apply below_alloc | apply pw_below_drewN))))
             (case aS => exact below_size (w := w1) (by (with_reducible (repeat (first | assumption | apply below_drew1 | apply below_alloc | apply pw_below_drewN)))))
             (case aL => rw [HLK.out]; omega)
             intro v9 w9 hR9 hB9 hg9 hat9; clear hg9 hat9))
      all_goals
        go_wp2
        exact ⟨⟨k + 1, by omega, by go_num, by rw [HST.out]; exact hR9, hB9⟩, by simp [intOf]; omega⟩
    · obtain rfl : k = n := by omega
      have d1 : decide ((k : Int) < (k : Int)) = false := by simp
      have d2 : decide (k < k) = false := by simp
      rw [List.take_of_length_le (by rw [HCA.out.1]; omega)] at hR
      have hb := hb1.trans (hB.mono hb1.size)
      have hRR := Kd.R_lower hR hb1.size
      clear hR
      go_wp2
      refine bodyPost_ret (v := .tuple #[u6, .bool true]) (by simp [results, Tryz.results41, go_sem]) rfl ⟨_, by rw [HH0.out]; rfl, hRR, hb⟩
theorem corners_calls (A : Option Addr) (c : Nat) (l : List S) (w : World) (hl : Kd.C k32 w A l.length l) (hc : l.length ≤ c) (hw : Wd l) :
    Calls Tryz.prog 41 #[.slice A l.length c] w (CorPost l w) := by
  by_cases h0 : (allF l).2 = 0
  · exact corners_good A c l w hl hc hw h0
  · exact corners_bad A c l w hl hc hw h0
end Go.Proofs.YtioahkblhekgpaaGreatDoor.Adm
namespace Go.Proofs.YtioahkblhekgpaaGreatDoor.Adm
open Go.RowKit Go.Proofs.YtioahkblhekgpaaGreatDoor.FltP Go.Proofs.YtioahkblhekgpaaGreatDoor.R Go.Proofs.YtioahkblhekgpaaGreatDoor.E Go.Proofs.YtioahkblhekgpaaGreatDoor.O Go.Proofs.YtioahkblhekgpaaGreatDoorW.PrintWords Go.Proofs.YtioahkblhekgpaaGreatDoorW.PrintLast Go.Proofs.YtioahkblhekgpaaGreatDoorW.PrintMore
attribute [local go_sem high] eqPt
theorem u64_nn (z : Int) : 0 ≤ IntKind.u64.wrap z := by
  unfold IntKind.wrap
  simp only []
  rw [if_neg (by rw [show IntKind.u64.signed = false from rfl]; simp)]
  exact Int.emod_nonneg _ (by decide)
theorem rem_at (z : Int) {n : Nat} (h0 : 0 < n) (h1 : n ≤ 80) : ∃ k : Nat, k < n ∧ wrap64 ((IntKind.u64.wrap z).tmod (n : Int)) = k := by
  have hn := u64_nn z
  generalize IntKind.u64.wrap z = y at *
  rw [Int.tmod_eq_emod_of_nonneg hn]
  have a := Int.emod_nonneg y (show (n : Int) ≠ 0 by omega)
  have b := Int.emod_lt_of_pos y (show (0 : Int) < n by omega)
  generalize y % (n : Int) = r at *
  exact ⟨r.toNat, by omega, by rw [Pure.wrap64_in _ (by omega)]; omega⟩
def eqF (x y : Nat) : Bool := FloatKind.f64.format.order x y == some .eq
def eqP (x y : S) : Bool := eqF x.f0 y.f0 && eqF x.f1 y.f1
def corF (l : List S) (k i : Nat) : Bool := (List.range i).any fun j => eqP (at_ (cornersAll l) j) (at_ l k)
theorem corF_succ (l : List S) (k i : Nat) : corF l k (i + 1) = (corF l k i || (eqF (rd_T32 (cornersAll l) (i : Int)).f0 (rd_T32 l (k : Int)).f0 && eqF (rd_T32 (cornersAll l) (i : Int)).f1 (rd_T32 l (k : Int)).f1)) := any_succ _ _
theorem nil_own {W : World} {base : Nat} (hb : base ≤ W.heap.size) : Kd.R k32 32 (W.alloc (.cells #[] 32)) base (fun _ => True) (.slice (some ⟨W.heap.size, 0, none⟩) 0 0) [] :=
  ⟨fun _ _ => trivial, [], World.ownsRow_lit W #[] 0 hb (Nat.zero_le _) rfl, rfl, fun j p hj => by simp at hj⟩
def Same (l m : List S) : Prop := (allF m).2 = 0 ∧ (cornersAll m).length = (cornersAll l).length ∧ ∀ j, j < (cornersAll l).length → eqP (at_ (cornersAll m) j) (at_ (cornersAll l) j) = true
set_option maxRecDepth 100000 in
set_option maxHeartbeats 4000000 in
theorem counts_good (A : Option Addr) (c : Nat) (l : List S) (place : Int) (w : World) (hl : Kd.C k32 w A l.length l) (hc : l.length ≤ c) (hw : Wd l) (h1 : l.length ≤ 80) (hz : 0 < l.length) (h0 : (allF l).2 = 0) (hsl : Same l l) (hrev : Same l l.reverse) (hdel : ∀ k, k < l.length → corF l k (cornersAll l).length = false → Same l ([] ++ l.take k ++ l.drop (k + 1))) :
    Calls Tryz.prog 11 #[.slice A l.length c, .int .i64 place] w fun e w' => e = .returned (.bool true) ∧ Below w.heap.size w w' := by
  have hco := corners_calls A c l
  have HSL := Aside0.mk hsl
  have HREV := Aside0.mk hrev
  have HDEL := Aside0.mk hdel
  clear hsl hrev hdel
  have hwr : Wd l.reverse := fun x hx => hw x (List.mem_reverse.mp hx)
  have hwd : ∀ k, Wd ([] ++ l.take k ++ l.drop (k + 1)) := fun k x hx => hw x (by
    rw [List.nil_append] at hx
    exact (List.mem_append.mp hx).elim (fun h => List.mem_of_mem_take h) (fun h => List.mem_of_mem_drop h))
  have HC := Aside0.mk hc
  have d1 : decide ((80 : Int) < (l.length : Int)) = false := by simp; omega
  have d2 : decide (80 < l.length) = false := by simp; omega
  have d3 : ((l.length : Int) == 0) = false := by simp; intro h; subst h; simp at hz
  have d4 : (l.length == 0) = false := by simp; intro h; subst h; simp at hz
  clear hc
  go_enter Tryz.func11, Tryz.ntmps11
  go_wp2_with (first
    | (go_at_call 31; (with_reducible refine (awake_call _).mono ?_); rintro u w1 ⟨rfl, hb1⟩)
    | (go_at_call 41; (with_reducible refine (hco _ (Kd.C_below hl hb1) HC.out hw).mono ?_); rintro u w2 ⟨v2, rfl, hR2, hb2⟩; rw [h0]; obtain ⟨A2, c2, rfl, hle2, hC2⟩ := Kd.R_reads hR2; have hB2 := hb1.trans (hb2.mono hb1.size); clear hb2 hR2))
  have hrv : ∀ k, k < l.length → l.reverse.take (k + 1) = l.reverse.take k ++ [at_ l (l.length - 1 - k)] := fun k hk => by
    rw [List.take_add_one, List.getElem?_eq_getElem (by rw [List.length_reverse]; omega), List.getElem_reverse]
    unfold at_
    rw [rd_get (by omega)]
    rfl
  obtain ⟨n, hn⟩ : ∃ n, n = l.length := ⟨_, rfl⟩
  have HRV := Aside0.mk hrv
  clear hrv
  have hlw2 := Kd.C_below hl hB2
  have hrl : ∀ k, k ≤ n → (l.reverse.take k).length = k := fun k hk => by rw [List.length_take, List.length_reverse]; omega
  rw [← hn] at HC hlw2 h1 hz d1 d2 d3 d4 ⊢
  go_loopw [7, 8] (fun v7 v8 wr => ∃ k : Nat, k ≤ n ∧ v8 = .int .i64 ((n : Int) - 1 - k) ∧ Kd.R k32 32 wr w2.heap.size (fun _ => True) v7 (l.reverse.take k) ∧ Below w2.heap.size w2 wr) (fun _ v8 _ => ((intOf v8) + 1).toNat)
  case atStart => exact ⟨0, Nat.zero_le _, by go_num, Kd.R_nil .., Below.refl _ _⟩
  case round =>
    obtain ⟨k, hk, rfl, hR, hB⟩ := hrel
    by_cases hkl : k < n
    · obtain ⟨ab, ao, rfl, hz⟩ := pts_at (Kd.C_below hlw2 hB) (by omega)
      obtain ⟨a0, a1⟩ := hz (n - 1 - k) (by omega)
      clear hz
      have hst := HRV.out k (by omega)
      have hlk := hrl k hk
      rw [← hn] at hst
      obtain ⟨j, hj⟩ : ∃ j, j = n - 1 - k := ⟨_, rfl⟩
      unfold at_ at hst
      rw [← hj] at a0 a1 hst
      have i0 : (n : Int) - 1 - (k : Int) = (j : Int) := by omega
      rw [i0]
      have d5 : decide ((0 : Int) ≤ (j : Int)) = true := by simp
      have d6 : decide ((j : Int) < (n : Int)) = true := by simp; omega
      have d7 : decide (j < n) = true := by simp; omega
      have p7 : j < n := by omega
      have i1 : IntKind.i64.wrap ((j : Int) - 1) = (j : Int) - 1 := wrapI _ (by omega) (by omega)
      generalize rd_T32 l (j : Int) = a at *
      have HST := Aside0.mk hst
      have HLK := Aside0.mk hlk
      have HJ := Aside0.mk i0
      have HJ2 := Aside0.mk hj
      have HN := Aside0.mk hn
      clear hst hlk i0 hj hn hrl
      generalize l.reverse.take k = xs at *
      go_wp2_with (first
        | (refine Kd.R_append_rows k32 (w0 := w2) w2.heap.size (by rfl) (.tmp 45) (.tmp 50) 22 32 (.agg #[(.float .f64 0), (.float .f64 0)]) 16 rfl Tryz.underlying22 E.info32 rfl (by decide) (by omega) u7 xs [a] _ _ _ (fun _ => True) (fun _ => False) rfl rfl ?aO ?aR (fun _ _ h => h) (fun _ h => h.elim) (fun _ _ => trivial) ?aB ?aS ?aL ?_
           (case aO => exact Kd.R_alloc hR _)
           (case aR => exact lit_C (t := 32) [a] rfl (heap_alloc_new _ _) rfl (by decide))
           (case aB => (with_reducible (repeat (first | assumption | apply below_drew1 | apply below_alloc | apply pw_below_drewN))))
           (case aS => exact below_size (w := w2) (by (with_reducible (repeat (first | assumption | apply below_drew1 | apply below_alloc | apply pw_below_drewN)))))
           (case aL => rw [HLK.out]; omega)
           intro v9 w9 hR9 hB9 hg9 hat9; clear hg9 hat9))
      exact ⟨⟨k + 1, by omega, by congr 1; have := HJ.out; push_cast; omega, by rw [HST.out]; exact hR9, hB9⟩, by simp [intOf]⟩
    · obtain rfl : k = n := by omega
      have d5 : decide ((0 : Int) ≤ (k : Int) - 1 - (k : Int)) = false := by simp; omega
      rw [List.take_of_length_le (by rw [List.length_reverse]; omega)] at hR
      have HN := Aside0.mk hn
      clear hn hrl
      obtain ⟨Ab, cb_, rfl, hleb, hCb⟩ := Kd.R_reads hR
      rw [List.length_reverse] at hleb hCb ⊢
      go_wp2
      obtain ⟨kk, hkk, ekk⟩ := rem_at place hz h1
      rw [ekk]
      obtain ⟨m, hm⟩ : ∃ m, m = (cornersAll l).length := ⟨_, rfl⟩
      rw [← hm] at hC2 hle2 ⊢
      have hm0 := hC2.2.1
      obtain ⟨ab, ao, rfl, hlz⟩ := pts_at hlw2 (by omega)
      obtain ⟨l0, l1⟩ := hlz kk hkk
      clear hlz
      have HEKK := Aside0.mk ekk
      clear ekk
      go_loopw [10, 11] (fun v10 v11 w3 => ∃ i : Nat, i ≤ m ∧ v11 = .int .i64 i ∧ v10 = .bool (corF l kk i) ∧ Below wr.heap.size wr w3) (fun _ v11 _ => m - (intOf v11).toNat)
      case atStart => exact ⟨0, Nat.zero_le _, rfl, rfl, Below.refl _ _⟩
      case round =>
        obtain ⟨i, hi, rfl, rfl, hB3⟩ := hrel
        by_cases him : i < m
        · have hB4 := hB.trans (hB3.mono hB.size)
          obtain ⟨cb, co, rfl, hcz⟩ := pts_at (Kd.C_below hC2 hB4) (by omega)
          obtain ⟨c0, c1_⟩ := hcz i him
          clear hcz
          have l0' := bcell hB4 l0
          have l1' := bcell hB4 l1
          have hany := corF_succ l kk i
          have hS : wr.cell? ⟨cb, co + i * 2, none⟩ = some (.float .f64 (rd_T32 (cornersAll l) (i : Int)).f0) ∧ wr.cell? ⟨cb, co + i * 2 + 1, none⟩ = some (.float .f64 (rd_T32 (cornersAll l) (i : Int)).f1) ∧ wr.cell? ⟨ab, ao + kk * 2, none⟩ = some (.float .f64 (rd_T32 l (kk : Int)).f0) ∧ wr.cell? ⟨ab, ao + kk * 2 + 1, none⟩ = some (.float .f64 (rd_T32 l (kk : Int)).f1) := ⟨c0, c1_, l0', l1'⟩
          clear c0 c1_ l0' l1' l0 l1
          have HM := Aside0.mk hm
          clear hm
          generalize rd_T32 (cornersAll l) (i : Int) = x at *
          generalize rd_T32 l (kk : Int) = y at *
          have d5 : decide ((i : Int) < (m : Int)) = true := by simp; omega
          have d6 : decide (i < m) = true := by simp; omega
          have d7 : decide ((kk : Int) < (k : Int)) = true := by simp; omega
          have d8 : decide (kk < k) = true := by simp; omega
          have i1 : IntKind.i64.wrap ((i : Int) + 1) = (i : Int) + 1 := wrapI _ (by omega) (by omega)
          have hq0 : (FloatKind.f64.format.order x.f0 y.f0 == some .eq) = eqF x.f0 y.f0 := rfl
          have hq1 : (FloatKind.f64.format.order x.f1 y.f1 == some .eq) = eqF x.f1 y.f1 := rfl
          have HANY := Aside0.mk hany
          clear hany
          generalize corF l kk i = o at *
          generalize eqF x.f0 y.f0 = q0 at *
          generalize eqF x.f1 y.f1 = q1 at *
          cases o <;> cases q0 <;> cases q1
          all_goals
            go_upto_region 16 with (fail)
            obtain ⟨s0, s1, s2, s3⟩ := hS
            go_quiet (fail)
            go_wp2
            exact ⟨⟨i + 1, by omega, by go_num, by rw [HANY.out]; rfl, pw_below_drewN hB3 _⟩, by simp [intOf]; omega⟩
        · obtain rfl : i = m := by omega
          have d6 : decide ((i : Int) < (i : Int)) = false := by simp
          have d7 : decide (i < i) = false := by simp
          have HM := Aside0.mk hm
          clear hm
          go_wp2
          have hBw := hB.trans (hB3.mono hB.size)
          have hlr := Kd.C_below hlw2 hBw
          have e1 : decide ((0 : Int) ≤ (kk : Int)) = true := by simp
          have e2 : decide ((kk : Int) ≤ (c : Int)) = true := by have := HC.out; simp; omega
          have e3 : decide (kk ≤ c) = true := by have := HC.out; simp; omega
          have e4 : decide ((kk : Int) + 1 ≤ (k : Int)) = true := by simp; omega
          have e5 : decide (kk + 1 ≤ k) = true := by simp; omega
          have e6 : decide ((0 : Int) ≤ (kk : Int) + 1) = true := by simp; omega
          have e7 : IntKind.i64.wrap ((kk : Int) + 1) = (kk : Int) + 1 := wrapI _ (by omega) (by omega)
          have p1 : (kk : Int) ≤ (c : Int) := by have := HC.out; omega
          have p2 : (kk : Int) + 1 ≤ (k : Int) := by omega
          have p3 : (k : Int) ≤ (c : Int) := by have := HC.out; omega
          have p4 : (0 : Int) ≤ (kk : Int) + 1 := by omega
          have hT : Kd.C k32 wr (some ⟨ab, ao, none⟩) kk (l.take kk) := by
            have h := hlr
            rw [HN.out] at h
            have := Kd.C_take (m := kk) h (by rw [← HN.out]; omega)
            rwa [List.length_take, Nat.min_eq_left (by rw [← HN.out]; omega)] at this
          have hD : Kd.C k32 wr (if c = kk + 1 then some ⟨ab, ao, none⟩ else some ⟨ab, ao + (kk + 1) * 2, none⟩) (k - (kk + 1)) (l.drop (kk + 1)) := by
            have h := hlr
            rw [HN.out] at h
            have := Kd.C_drop (m := kk + 1) (c := c) h (by rw [← HN.out]; omega) (by rw [← HN.out]; exact HC.out)
            rw [List.length_drop, ← HN.out] at this
            exact this
          have HLT := Aside0.mk (show (l.take kk).length = kk by rw [List.length_take, ← HN.out]; omega)
          have hS : Below wr.heap.size wr wr := Below.refl _ _
          go_region_held3 (fun W' => Below wr.heap.size wr W')
            (with_reducible (repeat (first | exact Below.refl _ _ | assumption | apply below_drew1 | apply below_alloc | apply pw_below_drewN)))
            (first
              | (refine Kd.R_append_rows_step k32 (w0 := wr) wr.heap.size (by rfl) (.tmp 92) (.tmp 95) 22 32 (.agg #[(.float .f64 0), (.float .f64 0)]) 16 rfl Tryz.underlying22 E.info32 rfl (by decide) (by omega) _ [] (l.take kk) _ _ _ (fun _ => True) (fun _ => False) rfl rfl ?aO ?aR (fun _ _ h => h) (fun _ h => h.elim) (fun _ _ => trivial) ?aB ?aS ?aL ?_
                 (case aO => first | exact nil_own (by simp) | exact Kd.R_drew (nil_own (by simp)))
                 (case aR => exact Kd.C_below hT (by (with_reducible (repeat (first | exact Below.refl _ _ | assumption | apply below_drew1 | apply below_alloc | apply pw_below_drewN)))))
                 (case aB => (with_reducible (repeat (first | exact Below.refl _ _ | assumption | apply below_drew1 | apply below_alloc | apply pw_below_drewN))))
                 (case aS => exact below_size (w := wr) (by (with_reducible (repeat (first | exact Below.refl _ _ | assumption | apply below_drew1 | apply below_alloc | apply pw_below_drewN)))))
                 (case aL => simp; omega)
                 intro v20 w20 hR20 hB20 hg20 hat20; clear hg20 hat20)
              | (refine Kd.R_append_rows_step k32 (w0 := wr) wr.heap.size (by rfl) (.tmp 96) (.tmp 100) 22 32 (.agg #[(.float .f64 0), (.float .f64 0)]) 16 rfl Tryz.underlying22 E.info32 rfl (by decide) (by omega) _ ([] ++ l.take kk) (l.drop (kk + 1)) _ _ _ (fun _ => True) (fun _ => False) rfl rfl ?aO ?aR (fun _ _ h => h) (fun _ h => h.elim) (fun _ _ => trivial) ?aB ?aS ?aL ?_
                 (case aO => first | exact hR20 | exact Kd.R_drew hR20)
                 (case aR => exact Kd.C_below hD (by (with_reducible (repeat (first | exact Below.refl _ _ | assumption | apply below_drew1 | apply below_alloc | apply pw_below_drewN)))))
                 (case aB => (with_reducible (repeat (first | exact Below.refl _ _ | assumption | apply below_drew1 | apply below_alloc | apply pw_below_drewN))))
                 (case aS => exact below_size (w := wr) (by (with_reducible (repeat (first | exact Below.refl _ _ | assumption | apply below_drew1 | apply below_alloc | apply pw_below_drewN)))))
                 (case aL => rw [List.nil_append, HLT.out]; omega)
                 intro v21 w21 hR21 hB21 hg21 hat21; clear hg21 hat21))
          all_goals
            have hdl := HDEL.out kk (by rw [← HN.out]; exact hkk)
            rw [← HM.out] at hdl
            have hwf := hwd kk
            clear HDEL hwd
            have HDEL := Aside0.mk hdl
            clear hdl
            generalize [] ++ l.take kk ++ l.drop (kk + 1) = lf at *
            obtain ⟨Al, cl, rfl, hlel, hCl⟩ := Kd.R_reads hR21
            have hCb21 := Kd.C_below (Kd.C_below hCb hB3) hB21
            have hlr21 := Kd.C_below hlr hB21
            have hC21 := Kd.C_below (Kd.C_below hC2 hBw) hB21
            have hback := corners_calls Ab cb_ l.reverse w21 (by rw [List.length_reverse]; exact hCb21) (by rw [List.length_reverse]; exact hleb) hwr
            rw [List.length_reverse] at hback
            have hleft := fun W h => corners_calls Al cl lf W h hlel hwf
            have hself := fun W h => hco W h
            rw [← HN.out] at hself
            have hBB : Below w.heap.size w w21 := hB2.trans ((hBw.trans (hB21.mono hBw.size)).mono hB2.size)
            clear hT hD hR21 hR20 hCb hleb hlel hlr hB hBw hB3 hB21 hS hC2 l0 l1 hR
            generalize hcr : corF l kk i = cr at *
            cases cr
            all_goals
              go_wp2_with (first
                | (go_at_call 41; (with_reducible refine hback.mono ?_); rintro u w22 ⟨v22, rfl, hR22, hb22⟩; rw [HREV.out.1]; obtain ⟨A22, c22, rfl, hle22, hC22⟩ := Kd.R_reads hR22; rw [HREV.out.2.1, ← HM.out] at hle22 hC22 ⊢; clear hback hR22)
                | (go_at_call 41; (with_reducible refine (hleft _ (Kd.C_below hCl hb22)).mono ?_); rintro u w23 ⟨v23, rfl, hR23, hb23⟩; obtain ⟨A23, c23, rfl, hle23, hC23⟩ := Kd.R_reads hR23; rw [(HDEL.out (by simp)).1]; rw [(HDEL.out (by simp)).2.1, ← HM.out] at hle23 hC23 ⊢; have HSM := Aside0.mk (HDEL.out (by simp)); clear hleft hR23)
                | (go_at_call 41; (with_reducible refine (hself _ (Kd.C_below hlr21 hb22) HC.out hw).mono ?_); rintro u w23 ⟨v23, rfl, hR23, hb23⟩; obtain ⟨A23, c23, rfl, hle23, hC23⟩ := Kd.R_reads hR23; rw [h0]; rw [← HM.out] at hle23 hC23 ⊢; have HSM := HSL; clear hself hR23))
              all_goals
                have hB23 := hb22.trans (hb23.mono hb22.size)
                have hCa := Kd.C_below hC22 hb23
                have hCw := Kd.C_below hC21 hB23
                have hBW := hBB.trans (hB23.mono hBB.size)
                clear hB23 hb22 hb23 hC22 hC21 hBB hlr21 hCb21
                go_loopw [17] (fun v17 wr => ∃ t : Nat, t ≤ i ∧ v17 = .int .i64 t ∧ Below w23.heap.size w23 wr) (fun v17 _ => i - (intOf v17).toNat)
                case atStart => exact ⟨0, Nat.zero_le _, rfl, Below.refl _ _⟩
                case round =>
                  obtain ⟨t, ht, rfl, hB5⟩ := hrel
                  by_cases hti : t < i
                  · obtain ⟨xb, xo, rfl, hx⟩ := pts_at (Kd.C_below hCa hB5) (by omega)
                    obtain ⟨yb, yo, rfl, hy⟩ := pts_at (Kd.C_below hC23 hB5) (by omega)
                    obtain ⟨zb, zo, rfl, hz_⟩ := pts_at (Kd.C_below hCw hB5) (by omega)
                    obtain ⟨x0, x1⟩ := hx t hti
                    obtain ⟨y0, y1⟩ := hy t hti
                    obtain ⟨z0, z1⟩ := hz_ t hti
                    clear hx hy hz_
                    have q1 := HREV.out.2.2 t (by rw [← HM.out]; exact hti)
                    have q2 := HSM.out.2.2 t (by rw [← HM.out]; exact hti)
                    unfold eqP eqF at_ at q1 q2
                    rw [Bool.and_eq_true] at q1 q2
                    obtain ⟨q1, q1'⟩ := q1
                    obtain ⟨q2, q2'⟩ := q2
                    have d8 : decide ((t : Int) < (i : Int)) = true := by simp; omega
                    have d9 : decide (t < i) = true := by simp; omega
                    have p9 : t < i := hti
                    have i5 : IntKind.i64.wrap ((t : Int) + 1) = (t : Int) + 1 := wrapI _ (by omega) (by omega)
                    generalize rd_T32 (cornersAll l) (t : Int) = zz at *
                    generalize rd_T32 (cornersAll l.reverse) (t : Int) = xx at *
                    first
                      | (generalize rd_T32 (cornersAll lf) (t : Int) = yy at y0 y1 q2 q2')
                      | skip
                    go_upto_region 27 with (fail)
                    go_quiet (fail)
                    go_wp2
                    exact ⟨⟨t + 1, by omega, by go_num, pw_below_drewN hB5 _⟩, by simp [intOf]; omega⟩
                  · obtain rfl : t = i := by omega
                    have d8 : decide ((t : Int) < (t : Int)) = false := by simp
                    have d9 : decide (t < t) = false := by simp
                    go_wp2
                    go_ret
                    exact ⟨rfl, hBW.trans (hB5.mono hBW.size)⟩
end Go.Proofs.YtioahkblhekgpaaGreatDoor.Adm
