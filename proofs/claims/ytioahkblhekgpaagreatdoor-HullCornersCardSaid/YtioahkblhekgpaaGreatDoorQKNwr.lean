/- What the proof needs of Nwl, Nwm, Nwn, Nwo, Nwp, Nwq, Nwr: only what is used is left (wip/tools/prune.py). Conditions stand in each sentence. -/
import Derived.Test.YtioahkblhekgpaaGreatDoorQKNwk
import Derived.Test.YtioahkblhekgpaaGreatDoorQKWrk
import Derived.Test.YtioahkblhekgpaaGreatDoorQKOrw
set_option linter.unusedVariables false
set_option linter.unusedSimpArgs false
namespace Go.Proofs.YtioahkblhekgpaaGreatDoor.Adm
end Go.Proofs.YtioahkblhekgpaaGreatDoor.Adm
namespace Go.Proofs.YtioahkblhekgpaaGreatDoor.E
end Go.Proofs.YtioahkblhekgpaaGreatDoor.E
namespace Go.Proofs.YtioahkblhekgpaaGreatDoor.FltP
end Go.Proofs.YtioahkblhekgpaaGreatDoor.FltP
namespace Go.Proofs.YtioahkblhekgpaaGreatDoor.NumP
end Go.Proofs.YtioahkblhekgpaaGreatDoor.NumP
namespace Go.Proofs.YtioahkblhekgpaaGreatDoor.O
end Go.Proofs.YtioahkblhekgpaaGreatDoor.O
namespace Go.Proofs.YtioahkblhekgpaaGreatDoor.R
end Go.Proofs.YtioahkblhekgpaaGreatDoor.R
namespace Go.Proofs.YtioahkblhekgpaaGreatDoorW.PrintLast
end Go.Proofs.YtioahkblhekgpaaGreatDoorW.PrintLast
namespace Go.Proofs.YtioahkblhekgpaaGreatDoorW.PrintMore
end Go.Proofs.YtioahkblhekgpaaGreatDoorW.PrintMore
namespace Go.Proofs.YtioahkblhekgpaaGreatDoorW.PrintWords
end Go.Proofs.YtioahkblhekgpaaGreatDoorW.PrintWords
namespace Go.Proofs.YtioahkblhekgpaaGreatDoor.Nw
open Go.RowKit Go.Proofs.YtioahkblhekgpaaGreatDoor.FltP Go.Proofs.YtioahkblhekgpaaGreatDoor.R Go.Proofs.YtioahkblhekgpaaGreatDoor.E Go.Proofs.YtioahkblhekgpaaGreatDoor.O Go.Proofs.YtioahkblhekgpaaGreatDoorW.PrintWords Go.Proofs.YtioahkblhekgpaaGreatDoorW.PrintLast Go.Proofs.YtioahkblhekgpaaGreatDoorW.PrintMore
open Go.Proofs.YtioahkblhekgpaaGreatDoor.NumP Go.Proofs.YtioahkblhekgpaaGreatDoor.Adm
def Zr (l : List S) (a b c : Nat) : Prop := Geo.det (PT l a) (PT l b) (PT l c) = 0
def Fz (l : List S) (i j k : Nat) : Prop := (∀ a, a < i → ∀ b, b < a → ∀ c, c < b → Zr l a b c) ∧ (∀ b, b < j → ∀ c, c < b → Zr l i b c) ∧ ∀ c, c < k → Zr l i j c
theorem Fz.zero (l : List S) : Fz l 0 0 0 := ⟨fun _ h => absurd h (Nat.not_lt_zero _), fun _ h => absurd h (Nat.not_lt_zero _), fun _ h => absurd h (Nat.not_lt_zero _)⟩
theorem Fz.one {l : List S} {i j k : Nat} (h : Fz l i j k) (z : Zr l i j k) : Fz l i j (k + 1) :=
 ⟨h.1, h.2.1, fun c hc => (Nat.lt_succ_iff_lt_or_eq.mp hc).elim (h.2.2 c) (fun e => e ▸ z)⟩
theorem Fz.two {l : List S} {i j : Nat} (h : Fz l i j j) : Fz l i (j + 1) 0 :=
 ⟨h.1, fun b hb c hc => (Nat.lt_succ_iff_lt_or_eq.mp hb).elim (fun hb => h.2.1 b hb c hc) (fun e => h.2.2 c (e ▸ hc) |> fun z => e.symm ▸ z), fun _ h => absurd h (Nat.not_lt_zero _)⟩
theorem Fz.three {l : List S} {i : Nat} (h : Fz l i i 0) : Fz l (i + 1) 0 0 :=
 ⟨fun a ha b hb c hc => (Nat.lt_succ_iff_lt_or_eq.mp ha).elim (fun ha => h.1 a ha b hb c hc) (fun e => h.2.1 b (e ▸ hb) c hc |> fun z => e.symm ▸ z), fun _ h => absurd h (Nat.not_lt_zero _), fun _ h => absurd h (Nat.not_lt_zero _)⟩
theorem Fz.all {l : List S} (h0 : (allF l).2 = 0) (h : Fz l l.length 0 0) : flatAll l = true := (flat_iff h0).mpr (Geo.allflat_down.mpr fun i hi j hj k hk => h.1 i hi j hj k hk)
theorem flat_not {l : List S} (h0 : (allF l).2 = 0) {i j k : Nat} (hi : i < l.length) (hj : j < i) (hk : k < j) (z : ¬ Zr l i j k) : flatAll l = false := by
 cases hf : flatAll l with
 | false => rfl
 | true => exact absurd (Geo.allflat_down.mp ((flat_iff h0).mp hf) i hi j hj k hk) z
theorem sgn_zr {l : List S} {i j k : Nat} : sgnS (at_ l i) (at_ l j) (at_ l k) = 0 ↔ Zr l i j k := Int.sign_eq_zero_iff_zero
theorem six_below {w w1 : World} {p1 p2 p3 p4 p5 p6 : Addr} {v1 v2 v3 v4 v5 v6 : Value} (hb : Below w.heap.size w w1) (h : w.cell? p1 = some v1 ∧ w.cell? p2 = some v2 ∧ w.cell? p3 = some v3 ∧ w.cell? p4 = some v4 ∧ w.cell? p5 = some v5 ∧ w.cell? p6 = some v6) :
 w1.cell? p1 = some v1 ∧ w1.cell? p2 = some v2 ∧ w1.cell? p3 = some v3 ∧ w1.cell? p4 = some v4 ∧ w1.cell? p5 = some v5 ∧ w1.cell? p6 = some v6 :=
 ⟨bcell hb h.1, bcell hb h.2.1, bcell hb h.2.2.1, bcell hb h.2.2.2.1, bcell hb h.2.2.2.2.1, bcell hb h.2.2.2.2.2⟩
set_option maxRecDepth 100000 in
set_option maxHeartbeats 8000000 in
theorem flat07_calls (A : Option Addr) (c : Nat) (l : List S) (w : World) (hl : Kd.C k32 w A l.length l) (hc : l.length ≤ c) (h0 : (allF l).2 = 0) :
 Calls Tryz.prog 22 #[.slice A l.length c] w fun e w' => e = .returned (.bool (flatAll l)) ∧ Below w.heap.size w w' := by
 have hu32 := Tryz.underlying32
 have hok := (allF_ok l).mp h0
 have hgp := hok.2
 have hn : l.length ≤ 1048576 := hok.1
 have HF := Aside0.mk (@flat_not l h0)
 have HA := Aside0.mk (@Fz.all l h0)
 have HS := Aside0.mk (fun i j k => @sgn_zr l i j k)
 have hlf : ∀ i j k, i < l.length → j < l.length → k < l.length → ∀ W, Calls Tryz.prog 55 #[.agg #[.float .f64 (at_ l i).f0, .float .f64 (at_ l i).f1], .agg #[.float .f64 (at_ l j).f0, .float .f64 (at_ l j).f1], .agg #[.float .f64 (at_ l k).f0, .float .f64 (at_ l k).f1]] W fun e w' => e = .returned (.int .i64 (sgnS (at_ l i) (at_ l j) (at_ l k))) ∧ Below W.heap.size W w' :=
  fun i j k hi hj hk W => left05_call (hgp _ (rd_at hi)) (hgp _ (rd_at hj)) (hgp _ (rd_at hk)) W
 obtain ⟨m, hm⟩ : ∃ m, m = l.length := ⟨_, rfl⟩
 rw [← hm] at hl hc hn HF HA hlf
 rw [← hm]
 generalize flatAll l = r at *
 clear hok hgp h0 hm
 go_enter Tryz.func22, Tryz.ntmps22
 go_wp2
 go_loopw [3] (fun v3 wr => ∃ i : Nat, i ≤ m ∧ v3 = .int .i64 i ∧ Below w.heap.size w wr ∧ Aside0 (Fz l i 0 0)) (fun v3 _ => m - (intOf v3).toNat)
 case atStart => exact ⟨0, Nat.zero_le _, rfl, Below.refl _ _, ⟨Fz.zero l⟩⟩
 case round =>
  obtain ⟨i, hi, rfl, hB, HZ⟩ := hrel
  by_cases him : i < m
  ·have d1 : decide ((i : Int) < (m : Int)) = true := by simp; omega
   have d2 : decide (i < m) = true := by simp; omega
   have i1 : IntKind.i64.wrap ((i : Int) + 1) = (i : Int) + 1 := wrapI _ (by omega) (by omega)
   go_wp2
   obtain ⟨wa, hwa⟩ : ∃ wa : World, wa = wr := ⟨wr, rfl⟩
   subst hwa
   go_loopw [4] (fun v4 wr => ∃ j : Nat, j ≤ i ∧ v4 = .int .i64 j ∧ Below wa.heap.size wa wr ∧ Aside0 (Fz l i j 0)) (fun v4 _ => i - (intOf v4).toNat)
   case atStart => exact ⟨0, Nat.zero_le _, rfl, Below.refl _ _, HZ⟩
   case round =>
    clear HZ
    obtain ⟨j, hj, rfl, hB2, HZ⟩ := hrel
    by_cases hji : j < i
    ·have d3 : decide ((j : Int) < (i : Int)) = true := by simp; omega
     have d4 : decide (j < i) = true := by simp; omega
     have i2 : IntKind.i64.wrap ((j : Int) + 1) = (j : Int) + 1 := wrapI _ (by omega) (by omega)
     go_wp2
     obtain ⟨wb, hwb⟩ : ∃ wb : World, wb = wr := ⟨wr, rfl⟩
     subst hwb
     go_loopw [5] (fun v5 wr => ∃ k : Nat, k ≤ j ∧ v5 = .int .i64 k ∧ Below wb.heap.size wb wr ∧ Aside0 (Fz l i j k)) (fun v5 _ => j - (intOf v5).toNat)
     case atStart => exact ⟨0, Nat.zero_le _, rfl, Below.refl _ _, HZ⟩
     case round =>
      clear HZ
      obtain ⟨k, hk, rfl, hB3, HZ⟩ := hrel
      by_cases hkj : k < j
      ·have d5 : decide ((k : Int) < (j : Int)) = true := by simp; omega
       have d6 : decide (k < j) = true := by simp; omega
       have i3 : IntKind.i64.wrap ((k : Int) + 1) = (k : Int) + 1 := wrapI _ (by omega) (by omega)
       have hB4 := hB.trans (hB2.mono hB.size)
       have hB5 := hB4.trans (hB3.mono hB4.size)
       obtain ⟨ab, ao, rfl, hz⟩ := pts_at (Kd.C_below hl hB5) (by omega)
       have a1 := hz i him
       have a2 := hz j (by omega)
       have a3 := hz k (by omega)
       have hcl := hlf i j k him (by omega) (by omega)
       have hsg := HS.out i j k
       unfold at_ at hcl hsg
       generalize rd_T32 l (i : Int) = x at *
       generalize rd_T32 l (j : Int) = y at *
       generalize rd_T32 l (k : Int) = z at *
       have hX : wr.cell? ⟨ab, ao + i * 2, none⟩ = some (.float .f64 x.f0) ∧ wr.cell? ⟨ab, ao + i * 2 + 1, none⟩ = some (.float .f64 x.f1) ∧ wr.cell? ⟨ab, ao + j * 2, none⟩ = some (.float .f64 y.f0) ∧ wr.cell? ⟨ab, ao + j * 2 + 1, none⟩ = some (.float .f64 y.f1) ∧ wr.cell? ⟨ab, ao + k * 2, none⟩ = some (.float .f64 z.f0) ∧ wr.cell? ⟨ab, ao + k * 2 + 1, none⟩ = some (.float .f64 z.f1) := ⟨a1.1, a1.2, a2.1, a2.2, a3.1, a3.2⟩
       have HSG := Aside0.mk hsg
       generalize sgnS x y z = s at *
       have d7 : decide ((i : Int) < (m : Int)) = true := by simp; omega
       have d8 : decide ((j : Int) < (m : Int)) = true := by simp; omega
       have d9 : decide ((k : Int) < (m : Int)) = true := by simp; omega
       have d10 : decide (j < m) = true := by simp; omega
       have d11 : decide (k < m) = true := by simp; omega
       have p1 : j < m := by omega
       have p2 : k < m := by omega
       have hb0 := Below.refl wr.heap.size wr
       clear hz a1 a2 a3 hsg
       by_cases hs : s = 0
       ·have e1 : (s != 0) = false := by rw [hs]; rfl
        have e2 : decide (s = 0) = true := by simp [hs]
        have HN := Aside0.mk (HZ.out.one (HSG.out.mp hs))
        clear hs HSG HZ
        go_upto_region 10 with (fail)
        go_region_held3 (fun W' => W'.cell? ⟨ab, ao + i * 2, none⟩ = some (.float .f64 x.f0) ∧ W'.cell? ⟨ab, ao + i * 2 + 1, none⟩ = some (.float .f64 x.f1) ∧ W'.cell? ⟨ab, ao + j * 2, none⟩ = some (.float .f64 y.f0) ∧ W'.cell? ⟨ab, ao + j * 2 + 1, none⟩ = some (.float .f64 y.f1) ∧ W'.cell? ⟨ab, ao + k * 2, none⟩ = some (.float .f64 z.f0) ∧ W'.cell? ⟨ab, ao + k * 2 + 1, none⟩ = some (.float .f64 z.f1))
         (first | exact hX | (refine six_below ?_ hX; (with_reducible (repeat (first | assumption | apply below_drew1 | apply below_alloc | apply pw_below_drewN)))))
         (first | (go_at_call 55; (with_reducible refine (hcl _).mono ?_); rintro u w5 ⟨rfl, hb5⟩; have hB6 := below_step (w := wr) (by (with_reducible (repeat (first | exact hb0 | apply below_drew1 | apply below_alloc | apply pw_below_drewN)))) hb5; clear hb5))
        all_goals
         go_wp2
         exact ⟨⟨k + 1, by omega, by go_num, hB3.trans (hB6.mono hB3.size), HN⟩, by simp [intOf]; omega⟩
       ·have e1 : (s != 0) = true := by simp [hs]
        have e2 : decide (s = 0) = false := by simp [hs]
        have HR := Aside0.mk (HF.out him hji hkj (fun z => hs (HSG.out.mpr z)))
        clear hs HSG HZ
        go_upto_region 10 with (fail)
        go_region_held3 (fun W' => W'.cell? ⟨ab, ao + i * 2, none⟩ = some (.float .f64 x.f0) ∧ W'.cell? ⟨ab, ao + i * 2 + 1, none⟩ = some (.float .f64 x.f1) ∧ W'.cell? ⟨ab, ao + j * 2, none⟩ = some (.float .f64 y.f0) ∧ W'.cell? ⟨ab, ao + j * 2 + 1, none⟩ = some (.float .f64 y.f1) ∧ W'.cell? ⟨ab, ao + k * 2, none⟩ = some (.float .f64 z.f0) ∧ W'.cell? ⟨ab, ao + k * 2 + 1, none⟩ = some (.float .f64 z.f1))
         (first | exact hX | (refine six_below ?_ hX; (with_reducible (repeat (first | assumption | apply below_drew1 | apply below_alloc | apply pw_below_drewN)))))
         (first | (go_at_call 55; (with_reducible refine (hcl _).mono ?_); rintro u w5 ⟨rfl, hb5⟩; have hB6 := below_step (w := wr) (by (with_reducible (repeat (first | exact hb0 | apply below_drew1 | apply below_alloc | apply pw_below_drewN)))) hb5; clear hb5))
        all_goals
         go_wp2
         go_ret
         exact ⟨by rw [HR.out]; rfl, hB5.trans (hB6.mono hB5.size)⟩
      ·obtain rfl : k = j := by omega
       have d5 : decide ((k : Int) < (k : Int)) = false := by simp
       have d6 : decide (k < k) = false := by simp
       have HN := Aside0.mk HZ.out.two
       go_wp2
       exact ⟨⟨k + 1, by omega, by go_num, hB2.trans (hB3.mono hB2.size), HN⟩, by simp [intOf]; omega⟩
    ·obtain rfl : j = i := by omega
     have d3 : decide ((j : Int) < (j : Int)) = false := by simp
     have d4 : decide (j < j) = false := by simp
     have HN := Aside0.mk HZ.out.three
     go_wp2
     exact ⟨⟨j + 1, by omega, by go_num, hB.trans (hB2.mono hB.size), HN⟩, by simp [intOf]; omega⟩
  ·obtain rfl : i = m := by omega
   have d1 : decide ((i : Int) < (i : Int)) = false := by simp
   have d2 : decide (i < i) = false := by simp
   have HR := Aside0.mk (HA.out HZ.out)
   go_wp2
   go_ret
   exact ⟨by rw [HR.out]; rfl, hB⟩
end Go.Proofs.YtioahkblhekgpaaGreatDoor.Nw
namespace Go.Proofs.YtioahkblhekgpaaGreatDoor.Nw
open Go.RowKit Go.Proofs.YtioahkblhekgpaaGreatDoor.FltP Go.Proofs.YtioahkblhekgpaaGreatDoor.R Go.Proofs.YtioahkblhekgpaaGreatDoor.E Go.Proofs.YtioahkblhekgpaaGreatDoor.O Go.Proofs.YtioahkblhekgpaaGreatDoorW.PrintWords Go.Proofs.YtioahkblhekgpaaGreatDoorW.PrintLast Go.Proofs.YtioahkblhekgpaaGreatDoorW.PrintMore
open Go.Proofs.YtioahkblhekgpaaGreatDoor.NumP Go.Proofs.YtioahkblhekgpaaGreatDoor.Adm
def Gives (w : World) (xs : List Nat) (e : Ending) (w' : World) : Prop := ∃ v, e = .returned v ∧ Kd.R (Kd.int .i64) 3 w' w.heap.size (fun _ => True) v (zi xs) ∧ Below w.heap.size w w'
theorem snoc_take {α : Type} (f : Nat → α) (n : Nat) {i : Nat} (h : i < n) : ((List.range n).map f).take i ++ [f i] = ((List.range n).map f).take (i + 1) := by
 rw [List.take_add_one, List.getElem?_map, List.getElem?_range h]; rfl
theorem four_below {w w1 : World} {p1 p2 p3 p4 : Addr} {v1 v2 v3 v4 : Value} (hb : Below w.heap.size w w1) (h : w.cell? p1 = some v1 ∧ w.cell? p2 = some v2 ∧ w.cell? p3 = some v3 ∧ w.cell? p4 = some v4) :
 w1.cell? p1 = some v1 ∧ w1.cell? p2 = some v2 ∧ w1.cell? p3 = some v3 ∧ w1.cell? p4 = some v4 := ⟨bcell hb h.1, bcell hb h.2.1, bcell hb h.2.2.1, bcell hb h.2.2.2⟩
set_option maxRecDepth 100000 in
set_option maxHeartbeats 8000000 in
theorem twins07_calls (A : Option Addr) (c : Nat) (l : List S) (w : World) (hl : Kd.C k32 w A l.length l) (hc : l.length ≤ c) (h0 : (allF l).2 = 0) :
 Calls Tryz.prog 20 #[.slice A l.length c] w (Gives w (twAll l)) := by
 have hu32 := Tryz.underlying32
 have hok := (allF_ok l).mp h0
 have hgp := hok.2
 have hn : l.length ≤ 1048576 := hok.1
 have htw : twAll l = (List.range l.length).map (tw (PT l)) := by unfold twAll; rw [if_pos h0]
 rw [htw]
 have hho : ∀ i j, i < l.length → j < l.length → ∀ W, Calls Tryz.prog 54 #[.agg #[.float .f64 (at_ l i).f0, .float .f64 (at_ l i).f1], .agg #[.float .f64 (at_ l j).f0, .float .f64 (at_ l j).f1]] W fun e w' => e = .returned (.int .i64 (holdS (at_ l i) (at_ l j))) ∧ Below W.heap.size W w' :=
  fun i j hi hj W => hold07_call (hgp _ (rd_at hi)) (hgp _ (rd_at hj)) W
 have HH := Aside0.mk (fun i j => holdS_iff (at_ l i) (at_ l j))
 obtain ⟨m, hm⟩ : ∃ m, m = l.length := ⟨_, rfl⟩
 rw [← hm] at hl hc hn hho htw
 rw [← hm]
 clear hok hgp h0 hm htw
 go_enter Tryz.func20, Tryz.ntmps20
 go_wp2
 go_loopw [3, 4] (fun v3 v4 wr => ∃ i : Nat, i ≤ m ∧ v4 = .int .i64 i ∧ Kd.R (Kd.int .i64) 3 wr w.heap.size (fun _ => True) v3 (zi (((List.range m).map (tw (PT l))).take i)) ∧ Below w.heap.size w wr) (fun _ v4 _ => m - (intOf v4).toNat)
 case atStart => exact ⟨0, Nat.zero_le _, rfl, Kd.R_nil .., Below.refl _ _⟩
 case round =>
  obtain ⟨i, hi, rfl, hR, hB⟩ := hrel
  by_cases him : i < m
  ·have d1 : decide ((i : Int) < (m : Int)) = true := by simp; omega
   have d2 : decide (i < m) = true := by simp; omega
   have i1 : IntKind.i64.wrap ((i : Int) + 1) = (i : Int) + 1 := wrapI _ (by omega) (by omega)
   have hst := snoc_take (tw (PT l)) m him
   have hlx : (((List.range m).map (tw (PT l))).take i).length ≤ 4000000 := by rw [List.length_take]; omega
   obtain ⟨t1, t2, t3⟩ := tw_spec (PT l) i
   have HST := Aside0.mk hst
   have HLX := Aside0.mk hlx
   clear hst hlx
   generalize ((List.range m).map (tw (PT l))).take i = xs at *
   generalize tw (PT l) i = t at *
   have HNE : Aside0 (∀ j, j < t → holdS (at_ l j) (at_ l i) ≠ 0) := ⟨fun j hj h => t3 j hj (((HH.out j i).mp h).trans t2.symm)⟩
   have HEQ : Aside0 (holdS (at_ l t) (at_ l i) = 0) := ⟨(HH.out t i).mpr t2⟩
   clear t2 t3
   go_wp2
   obtain ⟨wa, hwa⟩ : ∃ wa : World, wa = wr := ⟨wr, rfl⟩
   subst hwa
   go_loopw [5] (fun v5 wr => ∃ j : Nat, j ≤ t ∧ v5 = .int .i64 j ∧ Below wa.heap.size wa wr) (fun v5 _ => t - (intOf v5).toNat)
   case atStart => exact ⟨0, Nat.zero_le _, rfl, Below.refl _ _⟩
   case round =>
    obtain ⟨j, hj, rfl, hB2⟩ := hrel
    have hB4 := hB.trans (hB2.mono hB.size)
    obtain ⟨ab, ao, rfl, hz⟩ := pts_at (Kd.C_below hl hB4) (by omega)
    have a1 := hz i him
    have a2 := hz j (by omega)
    have hcl := hho j i (by omega) him
    have HN := HNE.out j
    have HQ : Aside0 (j = t → holdS (at_ l j) (at_ l i) = 0) := ⟨fun e => e ▸ HEQ.out⟩
    unfold at_ at hcl HN HQ
    generalize rd_T32 l (i : Int) = x at *
    generalize rd_T32 l (j : Int) = y at *
    generalize holdS y x = s at *
    replace HN := Aside0.mk HN
    have hX : wr.cell? ⟨ab, ao + j * 2, none⟩ = some (.float .f64 y.f0) ∧ wr.cell? ⟨ab, ao + j * 2 + 1, none⟩ = some (.float .f64 y.f1) ∧ wr.cell? ⟨ab, ao + i * 2, none⟩ = some (.float .f64 x.f0) ∧ wr.cell? ⟨ab, ao + i * 2 + 1, none⟩ = some (.float .f64 x.f1) := ⟨a2.1, a2.2, a1.1, a1.2⟩
    have d3 : decide ((j : Int) < (m : Int)) = true := by simp; omega
    have d4 : decide (j < m) = true := by simp; omega
    have p1 : j < m := by omega
    have i3 : IntKind.i64.wrap ((j : Int) + 1) = (j : Int) + 1 := wrapI _ (by omega) (by omega)
    have hb0 := Below.refl wr.heap.size wr
    clear hz a1 a2 HNE HEQ
    by_cases hjt : j < t
    ·have hs := HN.out hjt
     have e1 : (s != 0) = true := by simp [hs]
     have e2 : decide (s = 0) = false := by simp [hs]
     clear hs HN HQ
     go_upto_region 6 with (fail)
     go_region_held3 (fun W' => W'.cell? ⟨ab, ao + j * 2, none⟩ = some (.float .f64 y.f0) ∧ W'.cell? ⟨ab, ao + j * 2 + 1, none⟩ = some (.float .f64 y.f1) ∧ W'.cell? ⟨ab, ao + i * 2, none⟩ = some (.float .f64 x.f0) ∧ W'.cell? ⟨ab, ao + i * 2 + 1, none⟩ = some (.float .f64 x.f1))
      (first | exact hX | (refine four_below ?_ hX; (with_reducible (repeat (first | assumption | apply below_drew1 | apply below_alloc | apply pw_below_drewN)))))
      (first | (go_at_call 54; (with_reducible refine (hcl _).mono ?_); rintro u w5 ⟨rfl, hb5⟩; have hB6 := below_step (w := wr) (by (with_reducible (repeat (first | exact hb0 | apply below_drew1 | apply below_alloc | apply pw_below_drewN)))) hb5; clear hb5))
     all_goals
      go_wp2
      exact ⟨⟨j + 1, by omega, by go_num, hB2.trans (hB6.mono hB2.size)⟩, by simp [intOf]; omega⟩
    ·obtain rfl : j = t := by omega
     have hs := HQ.out rfl
     subst hs
     clear HN HQ
     go_upto_region 6 with (fail)
     go_region_held3 (fun W' => W'.cell? ⟨ab, ao + j * 2, none⟩ = some (.float .f64 y.f0) ∧ W'.cell? ⟨ab, ao + j * 2 + 1, none⟩ = some (.float .f64 y.f1) ∧ W'.cell? ⟨ab, ao + i * 2, none⟩ = some (.float .f64 x.f0) ∧ W'.cell? ⟨ab, ao + i * 2 + 1, none⟩ = some (.float .f64 x.f1))
      (first | exact hX | (refine four_below ?_ hX; (with_reducible (repeat (first | assumption | apply below_drew1 | apply below_alloc | apply pw_below_drewN)))))
      (first | (go_at_call 54; (with_reducible refine (hcl _).mono ?_); rintro u w5 ⟨rfl, hb5⟩; have hB6 := below_step (w := wr) (by (with_reducible (repeat (first | exact hb0 | apply below_drew1 | apply below_alloc | apply pw_below_drewN)))) hb5; clear hb5))
     all_goals
      have hB7 := hB2.trans (hB6.mono hB2.size)
      have hC7 : Ck w5 w.heap.size _ xs := .inl (Kd.R_below hR hB7)
      have hB8 := hB.trans (hB7.mono hB.size)
      clear hR hB hB2 hB4 hB6 hB7 hX hb0 hl
      go_wp2_with (refine wp_ck hC7 hB8 hB8.size HLX.out rfl (.tmp 24) (.tmp 26) rfl rfl rfl rfl (by first | rfl | simp) ?_; intro v1 w1 hR2 hB9)
      exact ⟨⟨i + 1, by omega, by go_num, by rw [← HST.out]; exact hR2, hB9⟩, by simp [intOf]; omega⟩
  ·obtain rfl : i = m := by omega
   have d1 : decide ((i : Int) < (i : Int)) = false := by simp
   have d2 : decide (i < i) = false := by simp
   rw [List.take_of_length_le (by simp)] at hR
   go_wp2
   go_ret
   exact ⟨_, rfl, hR, hB⟩
end Go.Proofs.YtioahkblhekgpaaGreatDoor.Nw
namespace Go.Proofs.YtioahkblhekgpaaGreatDoor.Nw
open Go.RowKit Go.Proofs.YtioahkblhekgpaaGreatDoor.FltP Go.Proofs.YtioahkblhekgpaaGreatDoor.R Go.Proofs.YtioahkblhekgpaaGreatDoor.E Go.Proofs.YtioahkblhekgpaaGreatDoor.O Go.Proofs.YtioahkblhekgpaaGreatDoorW.PrintWords Go.Proofs.YtioahkblhekgpaaGreatDoorW.PrintLast Go.Proofs.YtioahkblhekgpaaGreatDoorW.PrintMore
open Go.Proofs.YtioahkblhekgpaaGreatDoor.NumP Go.Proofs.YtioahkblhekgpaaGreatDoor.Adm
theorem holdS_at (l : List S) (a b : Nat) : holdS (at_ l a) (at_ l b) = holdAt l a b := rfl
theorem hold_ins {l : List S} {a i : Nat} (h : a < i) : (0 < holdS (at_ l a) (at_ l i) → Geo.Lt (PT l) i a) ∧ (¬ 0 < holdS (at_ l a) (at_ l i) → Geo.Lt (PT l) a i) := by
 rw [holdS_at]
 obtain ⟨h1, h2⟩ := holdAt_iff l a i
 constructor
 ·intro h3
  rcases Geo.lt_total (P := PT l) i a with k | k | k
  ·exact k
  ·omega
  ·rcases k with k | k
   ·have := h1.mpr k; omega
   ·have := h2.mpr k.1; omega
 ·intro h3
  rcases Int.lt_or_eq_of_le (Int.not_lt.mp h3) with k | k
  ·exact .inl (h1.mp k)
  ·exact .inr ⟨h2.mp k, h⟩
theorem getD_at {xs : List Nat} {q : Nat} (h : q < xs.length) : xs.getD q 0 = xs[q] := by rw [List.getD_eq_getElem?_getD, List.getElem?_eq_getElem h]; rfl
theorem ins_sorted {P : Nat → Geo.Pt} {i j : Nat} {xs : List Nat} (h : Geo.Sorted P i xs) (hj : j ≤ i) (ha : ∀ q, j ≤ q → q < i → Geo.Lt P i (xs.getD q 0)) (hb : 0 < j → Geo.Lt P (xs.getD (j - 1) 0) i) :
 Geo.Sorted P (i + 1) (xs.take j ++ [i] ++ xs.drop j) := by
 have hlen := h.length
 have hp := h.1
 rw [← List.take_append_drop j xs, List.pairwise_append] at hp
 have hlo : ∀ x ∈ xs.take j, Geo.Lt P x i := fun x hx => by
  obtain ⟨p, hpl, rfl⟩ := List.mem_iff_getElem.mp hx
  have hpj : p < j := by simp at hpl; omega
  have h1 := hb (by omega)
  rw [getD_at (by omega)] at h1
  rw [List.getElem_take]
  rcases Nat.lt_or_eq_of_le (show p ≤ j - 1 by omega) with k | k
  ·exact (List.pairwise_iff_getElem.mp h.1 p (j - 1) (by omega) (by omega) k).trans h1
  ·subst k; exact h1
 have hhi : ∀ y ∈ xs.drop j, Geo.Lt P i y := fun y hy => by
  obtain ⟨p, hpl, rfl⟩ := List.mem_iff_getElem.mp hy
  have hpj : j + p < i := by simp at hpl; omega
  have h1 := ha (j + p) (by omega) hpj
  rw [getD_at (by omega)] at h1
  rw [List.getElem_drop]
  exact h1
 constructor
 ·rw [List.pairwise_append, List.pairwise_append]
  refine ⟨⟨hp.1, List.pairwise_singleton _ _, fun x hx y hy => by rw [List.mem_singleton.mp hy]; exact hlo x hx⟩, hp.2.1, fun x hx y hy => ?_⟩
  rcases List.mem_append.mp hx with hx | hx
  ·exact hp.2.2 x hx y hy
  ·rw [List.mem_singleton.mp hx]; exact hhi y hy
 ·intro x
  rw [List.mem_append, List.mem_append, List.mem_singleton]
  have := h.2 x
  rw [← List.take_append_drop j xs, List.mem_append] at this
  constructor
  ·rintro ((hx | hx) | hx)
   ·have := this.mp (.inl hx); omega
   ·omega
   ·have := this.mp (.inr hx); omega
  ·intro hx
   rcases Nat.lt_or_eq_of_le (Nat.le_of_lt_succ hx) with k | k
   ·rcases this.mpr k with k | k
    ·exact .inl (.inl k)
    ·exact .inr k
   ·exact .inl (.inr k)
theorem sorted_zero (P : Nat → Geo.Pt) : Geo.Sorted P 0 [] := ⟨List.Pairwise.nil, fun x => by simp⟩
end Go.Proofs.YtioahkblhekgpaaGreatDoor.Nw
namespace Go.Proofs.YtioahkblhekgpaaGreatDoor.Nw
open Go.RowKit Go.Proofs.YtioahkblhekgpaaGreatDoor.FltP Go.Proofs.YtioahkblhekgpaaGreatDoor.R Go.Proofs.YtioahkblhekgpaaGreatDoor.E Go.Proofs.YtioahkblhekgpaaGreatDoor.O Go.Proofs.YtioahkblhekgpaaGreatDoorW.PrintWords Go.Proofs.YtioahkblhekgpaaGreatDoorW.PrintLast Go.Proofs.YtioahkblhekgpaaGreatDoorW.PrintMore
open Go.Proofs.YtioahkblhekgpaaGreatDoor.NumP Go.Proofs.YtioahkblhekgpaaGreatDoor.Adm
theorem slice_hi (A : Option Addr) (n c j : Nat) (h : j ≤ n) (hc : n ≤ c) : ∀ W : World, (Instr.slice 26 (.slice A n c) none (some (.int .i64 (j : Int))) none).run Tryz.prog W = .ok (.slice A j c) W := by
 intro W
 obtain ⟨i0, hi, hz0, hz1, hz2⟩ := info_parts infoI
 have hel : Tryz.prog.elem 26 = 3 := by simp [Program.elem, Tryz.underlying26]
 have hu : Tryz.prog.underlying 26 = some (.slice (Tryz.prog.elem 26)) := by rw [hel]; exact Tryz.underlying26
 rw [run_slice_h W 26 A n c hu .i64 j (by omega) (by omega), hel]
 have ha : A.map (fun x => x.add 0) = A := by cases A <;> simp [Addr.add]
 simp [sizeOf, typeInfo, hi, sliced, Result.andThen, ha]
theorem slice_lo (A : Option Addr) (n c j : Nat) (h : j ≤ n) (hc : n ≤ c) : ∀ W : World, (Instr.slice 26 (.slice A n c) (some (.int .i64 (j : Int))) none none).run Tryz.prog W = .ok (.slice (if c = j then A else A.map (·.add (j * 1))) (n - j) (c - j)) W := by
 intro W
 obtain ⟨i0, hi, hz0, hz1, hz2⟩ := info_parts infoI
 have hel : Tryz.prog.elem 26 = 3 := by simp [Program.elem, Tryz.underlying26]
 have hu : Tryz.prog.underlying 26 = some (.slice (Tryz.prog.elem 26)) := by rw [hel]; exact Tryz.underlying26
 rw [run_slice_l W 26 A n c hu .i64 j (by omega) (by omega), hel]
 simp [sizeOf, typeInfo, hi, hz1, sliced, Result.andThen]
theorem zi_take (xs : List Nat) (j : Nat) : (zi xs).take j = zi (xs.take j) := by unfold zi; exact (List.map_take ..).symm
theorem zi_drop (xs : List Nat) (j : Nat) : (zi xs).drop j = zi (xs.drop j) := by unfold zi; exact (List.map_drop ..).symm
theorem zi_app (xs ys : List Nat) : zi xs ++ zi ys = zi (xs ++ ys) := by unfold zi; exact (List.map_append ..).symm
theorem parts {w : World} {A : Option Addr} {c n j : Nat} {xs : List Nat} (h : Kd.C (Kd.int .i64) w A n (zi xs)) (hn : xs.length = n) (hj : j ≤ n) (hc : n ≤ c) :
 Kd.C (Kd.int .i64) w A j (zi (xs.take j)) ∧ ∃ A2, A2 = (if c = j then A else A.map (·.add (j * 1))) ∧ Kd.C (Kd.int .i64) w A2 (n - j) (zi (xs.drop j)) := by
 subst hn
 have h' : Kd.C (Kd.int .i64) w A (zi xs).length (zi xs) := by rw [zi_length]; exact h
 have h1 := Kd.C_take (m := j) h' (by rw [zi_length]; exact hj)
 have h2 := Kd.C_drop (m := j) (c := c) h' (by rw [zi_length]; exact hj) (by rw [zi_length]; exact hc)
 rw [zi_take, zi_length, List.length_take, Nat.min_eq_left hj] at h1
 rw [zi_drop, zi_length, List.length_drop] at h2
 exact ⟨h1, _, rfl, h2⟩
theorem five_below {w w1 : World} {p1 p2 p3 p4 p5 : Addr} {v1 v2 v3 v4 v5 : Value} (hb : Below w.heap.size w w1) (h : w.cell? p1 = some v1 ∧ w.cell? p2 = some v2 ∧ w.cell? p3 = some v3 ∧ w.cell? p4 = some v4 ∧ w.cell? p5 = some v5) :
 w1.cell? p1 = some v1 ∧ w1.cell? p2 = some v2 ∧ w1.cell? p3 = some v3 ∧ w1.cell? p4 = some v4 ∧ w1.cell? p5 = some v5 := ⟨bcell hb h.1, bcell hb h.2.1, bcell hb h.2.2.1, bcell hb h.2.2.2.1, bcell hb h.2.2.2.2⟩
set_option maxRecDepth 100000 in
set_option maxHeartbeats 8000000 in
theorem order07_calls (A : Option Addr) (c : Nat) (l : List S) (w : World) (hl : Kd.C k32 w A l.length l) (hc : l.length ≤ c) (h0 : (allF l).2 = 0) :
 Calls Tryz.prog 19 #[.slice A l.length c] w (Gives w (orderN l)) := by
 have hu32 := Tryz.underlying32
 have hok := (allF_ok l).mp h0
 have hgp := hok.2
 have hn : l.length ≤ 1048576 := hok.1
 have hho : ∀ i j, i < l.length → j < l.length → ∀ W, Calls Tryz.prog 54 #[.agg #[.float .f64 (at_ l i).f0, .float .f64 (at_ l i).f1], .agg #[.float .f64 (at_ l j).f0, .float .f64 (at_ l j).f1]] W fun e w' => e = .returned (.int .i64 (holdS (at_ l i) (at_ l j))) ∧ Below W.heap.size W w' :=
  fun i j hi hj W => hold07_call (hgp _ (rd_at hi)) (hgp _ (rd_at hj)) W
 have HH := Aside0.mk (fun a i => @hold_ins l a i)
 have HOR := Aside0.mk (orderN_sorted l)
 obtain ⟨m, hm⟩ : ∃ m, m = l.length := ⟨_, rfl⟩
 rw [← hm] at hl hc hn hho HOR
 rw [← hm]
 generalize orderN l = oo at *
 clear hok hgp h0 hm
 go_enter Tryz.func19, Tryz.ntmps19
 go_wp2
 go_loopw [3, 4] (fun v3 v4 wr => ∃ (i : Nat) (xs : List Nat), i ≤ m ∧ v4 = .int .i64 i ∧ Aside0 (Geo.Sorted (PT l) i xs) ∧ Kd.R (Kd.int .i64) 3 wr w.heap.size (fun _ => True) v3 (zi xs) ∧ Below w.heap.size w wr) (fun _ v4 _ => m - (intOf v4).toNat)
 case atStart => exact ⟨0, [], Nat.zero_le _, rfl, ⟨sorted_zero _⟩, Kd.R_nil .., Below.refl _ _⟩
 case round =>
  obtain ⟨i, xs, hi, rfl, HSO, hR, hB⟩ := hrel
  obtain ⟨A3, c3, rfl⟩ := Kd.R_slice hR
  have hlx := HSO.out.length
  rw [zi_length, hlx] at hR ⊢
  have HLX := Aside0.mk hlx
  by_cases him : i < m
  ·have d1 : decide ((i : Int) < (m : Int)) = true := by simp; omega
   have d2 : decide (i < m) = true := by simp; omega
   have i1 : IntKind.i64.wrap ((i : Int) + 1) = (i : Int) + 1 := wrapI _ (by omega) (by omega)
   clear hlx
   go_wp2
   obtain ⟨wa, hwa⟩ : ∃ wa : World, wa = wr := ⟨wr, rfl⟩
   subst hwa
   go_loopw [5] (fun v5 wr => ∃ j : Nat, j ≤ i ∧ v5 = .int .i64 j ∧ Below wa.heap.size wa wr ∧ Aside0 (∀ q, j ≤ q → q < i → Geo.Lt (PT l) i (xs.getD q 0))) (fun v5 _ => (intOf v5).toNat)
   case atStart => exact ⟨i, Nat.le_refl _, rfl, Below.refl _ _, ⟨fun q h1 h2 => by omega⟩⟩
   case round =>
    obtain ⟨j, hj, rfl, hB2, HQ⟩ := hrel
    have hB4 := hB.trans (hB2.mono hB.size)
    have hR2 := Kd.R_below hR hB2
    obtain ⟨-, hic, hC⟩ := Kd.R_reads' hR2
    rw [zi_length, HLX.out] at hC
    obtain ⟨hP1, A2, hA2, hP2⟩ := parts (j := j) hC HLX.out hj hic
    have hs1 := slice_hi A3 i c3 j hj hic
    have hs2 := slice_lo A3 i c3 j hj hic
    rw [← hA2] at hs2
    have i3 : IntKind.i64.wrap ((j : Int) - 1) = (j : Int) - 1 := wrapI _ (by omega) (by omega)
    have hlt1 : (xs.take j).length = j := by rw [List.length_take, HLX.out]; omega
    clear hA2
    have HLT : Aside0 ((xs.take j).length ≤ 4000000) := ⟨by omega⟩
    have HLT1 := Aside0.mk hlt1
    clear hlt1
    rcases Nat.eq_zero_or_pos j with hj0 | hj0
    ·have HEX := Aside0.mk (ins_sorted (j := j) HSO.out hj HQ.out (fun h => absurd h (by omega)))
     have d5 : decide ((0 : Int) < (j : Int)) = false := by simp; omega
     have d6 : decide (0 < j) = false := by simp; omega
     clear hj0
     clear HQ HH hho
     go_upto_region 6 with (fail)
     go_quiet (fail)
     have hB7 := pw_below_drewN hB4 nq
     have q1 := Kd.C_below hP1 (pw_below_drewN (Below.refl wr.heap.size wr) nq)
     have q2 := Kd.C_below hP2 (pw_below_drewN (Below.refl wr.heap.size wr) nq)
     generalize wr.drewN nq = W7 at *
     clear hB4
     clear hR hR2 hC hB hB2 hP1 hP2
     go_wp2_with (first
      | (refine Kd.R_append_rows (Kd.int .i64) (w0 := W7) W7.heap.size (by rfl) (.tmp 35) (.tmp 38) 26 3 (.int .i64 0) 8 rfl Tryz.underlying26 infoI rfl (by decide) (by omega) (.slice none 0 0) [] (zi (xs.take j)) _ _ _ (fun _ => True) (fun _ => False) rfl rfl ?aO ?aR (fun _ _ h => h) (fun _ h => h.elim) (fun _ _ => trivial) ?aB ?aS ?aL ?_
         (case aO => exact Kd.R_nil ..)
         (case aR => exact q1)
         (case aB => exact Below.refl _ _)
         (case aS => exact Nat.le_refl _)
         (case aL => simp only [List.length_nil]; omega)
         intro v1 w1 hR1 hB1 hg1 hat1; clear hg1 hat1; rw [List.nil_append] at hR1)
      | (refine wp_ck (base := W7.heap.size) (w0 := W7) (.inl hR1) hB1 hB1.size HLT.out rfl (.tmp 40) (.tmp 42) rfl rfl rfl rfl (by first | rfl | simp) ?_; intro v2 w2 hR2 hB2; have q3 := Kd.C_below q2 hB2; clear hB1 hR1)
      | (refine Kd.R_append_rows (Kd.int .i64) (w0 := W7) W7.heap.size (by rfl) (.tmp 44) (.tmp 47) 26 3 (.int .i64 0) 8 rfl Tryz.underlying26 infoI rfl (by decide) (by omega) v2 (zi (xs.take j ++ [i])) (zi (xs.drop j)) _ _ _ (fun _ => True) (fun _ => False) rfl rfl ?aO ?aR (fun _ _ h => h) (fun _ h => h.elim) (fun _ _ => trivial) ?aB ?aS ?aL ?_
         (case aO => exact hR2)
         (case aR => exact q3)
         (case aB => exact hB2)
         (case aS => exact hB2.size)
         (case aL => rw [zi_length, List.length_append, HLT1.out, List.length_singleton]; omega)
         intro v3 w3 hR3 hB3 hg3 hat3; clear hg3 hat3; rw [zi_app] at hR3))
     exact ⟨⟨i + 1, _, by omega, by go_num, HEX, Kd.R_lower hR3 hB7.size, hB7.trans (hB3.mono hB7.size)⟩, by simp [intOf]; omega⟩
    ·obtain ⟨p, hp⟩ : ∃ p, p = j - 1 := ⟨_, rfl⟩
     have i4 : IntKind.i64.wrap ((j : Int) - 1) = (p : Int) := by rw [i3]; omega
     clear i3
     have hpi : p < i := by omega
     have hai : xs.getD p 0 < i := (HSO.out.2 _).mp (by rw [getD_at (by rw [HLX.out]; exact hpi)]; exact List.getElem_mem _)
     have hin := HH.out (xs.getD p 0) i hai
     have hcl := hho (xs.getD p 0) i (by omega) him
     obtain ⟨rb, ro, rfl, hrr⟩ := row_at hC (by omega)
     have r0 := hrr p hpi
     rw [rd, Int.toNat_natCast, List.getD_eq_getElem?_getD, zi_get (by rw [HLX.out]; exact hpi)] at r0
     obtain ⟨ab, ao, rfl, hz⟩ := pts_at (Kd.C_below hl hB4) (by omega)
     have a1 := hz i him
     have a2 := hz (xs.getD p 0) (by omega)
     have HP := Aside0.mk hp
     have HIN : Aside0 ((0 < holdS (at_ l (xs.getD p 0)) (at_ l i) → ∀ q, p ≤ q → q < i → Geo.Lt (PT l) i (xs.getD q 0)) ∧ (¬ 0 < holdS (at_ l (xs.getD p 0)) (at_ l i) → Geo.Sorted (PT l) (i + 1) (xs.take j ++ [i] ++ xs.drop j))) := ⟨fun h q h1 h2 => by
      rcases Nat.eq_or_lt_of_le h1 with k | k
      ·subst k; exact hin.1 h
      ·exact HQ.out q (by omega) h2, fun h => ins_sorted (j := j) HSO.out hj HQ.out (fun _ => by rw [← hp]; exact hin.2 (by first | exact h | exact Int.not_lt.mp h))⟩
     clear hz hrr hin hp HQ HH hho
     have d5 : decide ((0 : Int) < (j : Int)) = true := by simp; omega
     have d6 : decide (0 < j) = true := by simp; omega
     unfold at_ at hcl HIN
     generalize xs.getD p 0 = a at *
     generalize rd_T32 l (i : Int) = x at *
     generalize rd_T32 l (a : Int) = y at *
     generalize holdS y x = s at *
     have hX : wr.cell? ⟨rb, ro + p, none⟩ = some (.int .i64 a) ∧ wr.cell? ⟨ab, ao + a * 2, none⟩ = some (.float .f64 y.f0) ∧ wr.cell? ⟨ab, ao + a * 2 + 1, none⟩ = some (.float .f64 y.f1) ∧ wr.cell? ⟨ab, ao + i * 2, none⟩ = some (.float .f64 x.f0) ∧ wr.cell? ⟨ab, ao + i * 2 + 1, none⟩ = some (.float .f64 x.f1) := ⟨r0, a2.1, a2.2, a1.1, a1.2⟩
     have e3 : decide ((p : Int) < (i : Int)) = true := by simp; omega
     have e4 : decide (p < i) = true := by simp; omega
     have e5 : decide ((a : Int) < (m : Int)) = true := by simp; omega
     have e6 : decide (a < m) = true := by simp; omega
     have p1 : a < m := by omega
     have hb0 := Below.refl wr.heap.size wr
     clear r0 a1 a2
     by_cases hs : 0 < s
     ·have e1 : decide (0 < s) = true := by simp [hs]
      have HN := Aside0.mk (HIN.out.1 hs)
      clear hs HIN HSO
      go_upto_region 6 with (fail)
      go_region_held3 (fun W' => W'.cell? ⟨rb, ro + p, none⟩ = some (.int .i64 a) ∧ W'.cell? ⟨ab, ao + a * 2, none⟩ = some (.float .f64 y.f0) ∧ W'.cell? ⟨ab, ao + a * 2 + 1, none⟩ = some (.float .f64 y.f1) ∧ W'.cell? ⟨ab, ao + i * 2, none⟩ = some (.float .f64 x.f0) ∧ W'.cell? ⟨ab, ao + i * 2 + 1, none⟩ = some (.float .f64 x.f1))
       (first | exact hX | (refine five_below ?_ hX; (with_reducible (repeat (first | assumption | apply below_drew1 | apply below_alloc | apply pw_below_drewN)))))
       (first | (go_at_call 54; (with_reducible refine (hcl _).mono ?_); rintro u w5 ⟨rfl, hb5⟩; have hB6 := below_step (w := wr) (by (with_reducible (repeat (first | exact hb0 | apply below_drew1 | apply below_alloc | apply pw_below_drewN)))) hb5; clear hb5))
      all_goals
       go_wp2
       exact ⟨⟨p, by omega, by go_num, hB2.trans (hB6.mono hB2.size), HN⟩, by have := HP.out; simp [intOf]; omega⟩
     ·have e1 : decide (0 < s) = false := by simp; omega
      have HEX := Aside0.mk (HIN.out.2 hs)
      clear hs HIN HSO
      go_upto_region 6 with (fail)
      go_region_held3 (fun W' => W'.cell? ⟨rb, ro + p, none⟩ = some (.int .i64 a) ∧ W'.cell? ⟨ab, ao + a * 2, none⟩ = some (.float .f64 y.f0) ∧ W'.cell? ⟨ab, ao + a * 2 + 1, none⟩ = some (.float .f64 y.f1) ∧ W'.cell? ⟨ab, ao + i * 2, none⟩ = some (.float .f64 x.f0) ∧ W'.cell? ⟨ab, ao + i * 2 + 1, none⟩ = some (.float .f64 x.f1))
       (first | exact hX | (refine five_below ?_ hX; (with_reducible (repeat (first | assumption | apply below_drew1 | apply below_alloc | apply pw_below_drewN)))))
       (first | (go_at_call 54; (with_reducible refine (hcl _).mono ?_); rintro u w5 ⟨rfl, hb5⟩; have hB6 := below_step (w := wr) (by (with_reducible (repeat (first | exact hb0 | apply below_drew1 | apply below_alloc | apply pw_below_drewN)))) hb5; clear hb5))
      all_goals
       have hB7 := hB4.trans (hB6.mono hB4.size)
       have q1 := Kd.C_below hP1 hB6
       have q2 := Kd.C_below hP2 hB6
       obtain ⟨W7, hW7⟩ : ∃ W7 : World, W7 = w5 := ⟨w5, rfl⟩
       subst hW7
       clear hB4 hX hb0
       clear hR hR2 hC hB hB2 hP1 hP2
       go_wp2_with (first
        | (refine Kd.R_append_rows (Kd.int .i64) (w0 := W7) W7.heap.size (by rfl) (.tmp 35) (.tmp 38) 26 3 (.int .i64 0) 8 rfl Tryz.underlying26 infoI rfl (by decide) (by omega) (.slice none 0 0) [] (zi (xs.take j)) _ _ _ (fun _ => True) (fun _ => False) rfl rfl ?aO ?aR (fun _ _ h => h) (fun _ h => h.elim) (fun _ _ => trivial) ?aB ?aS ?aL ?_
           (case aO => exact Kd.R_nil ..)
           (case aR => exact q1)
           (case aB => exact Below.refl _ _)
           (case aS => exact Nat.le_refl _)
           (case aL => simp only [List.length_nil]; omega)
           intro v1 w1 hR1 hB1 hg1 hat1; clear hg1 hat1; rw [List.nil_append] at hR1)
        | (refine wp_ck (base := W7.heap.size) (w0 := W7) (.inl hR1) hB1 hB1.size HLT.out rfl (.tmp 40) (.tmp 42) rfl rfl rfl rfl (by first | rfl | simp) ?_; intro v2 w2 hR2 hB2; have q3 := Kd.C_below q2 hB2; clear hB1 hR1)
        | (refine Kd.R_append_rows (Kd.int .i64) (w0 := W7) W7.heap.size (by rfl) (.tmp 44) (.tmp 47) 26 3 (.int .i64 0) 8 rfl Tryz.underlying26 infoI rfl (by decide) (by omega) v2 (zi (xs.take j ++ [i])) (zi (xs.drop j)) _ _ _ (fun _ => True) (fun _ => False) rfl rfl ?aO ?aR (fun _ _ h => h) (fun _ h => h.elim) (fun _ _ => trivial) ?aB ?aS ?aL ?_
           (case aO => exact hR2)
           (case aR => exact q3)
           (case aB => exact hB2)
           (case aS => exact hB2.size)
           (case aL => rw [zi_length, List.length_append, HLT1.out, List.length_singleton]; omega)
           intro v3 w3 hR3 hB3 hg3 hat3; clear hg3 hat3; rw [zi_app] at hR3))
       exact ⟨⟨i + 1, _, by omega, by go_num, HEX, Kd.R_lower hR3 hB7.size, hB7.trans (hB3.mono hB7.size)⟩, by simp [intOf]; omega⟩
  ·obtain rfl : i = m := by omega
   have d1 : decide ((i : Int) < (i : Int)) = false := by simp
   have d2 : decide (i < i) = false := by simp
   have hee := HOR.out.eq HSO.out
   subst hee
   clear hlx HLX
   go_wp2
   go_ret
   exact ⟨_, rfl, hR, hB⟩
end Go.Proofs.YtioahkblhekgpaaGreatDoor.Nw
namespace Go.Proofs.YtioahkblhekgpaaGreatDoor.Nw
open Go.RowKit Go.Proofs.YtioahkblhekgpaaGreatDoor.FltP Go.Proofs.YtioahkblhekgpaaGreatDoor.R Go.Proofs.YtioahkblhekgpaaGreatDoor.E Go.Proofs.YtioahkblhekgpaaGreatDoor.O Go.Proofs.YtioahkblhekgpaaGreatDoorW.PrintWords Go.Proofs.YtioahkblhekgpaaGreatDoorW.PrintLast Go.Proofs.YtioahkblhekgpaaGreatDoorW.PrintMore
open Go.Proofs.YtioahkblhekgpaaGreatDoor.NumP Go.Proofs.YtioahkblhekgpaaGreatDoor.Adm
theorem rdz {u : List Nat} {i : Nat} (h : i < u.length) : rd (zi u) (i : Int) = (u.getD i 0 : Nat) := by
 rw [rd, Int.toNat_natCast, List.getD_eq_getElem?_getD, zi_get h]
theorem filter_take (f : Nat → Bool) (xs : List Nat) {i : Nat} (h : i < xs.length) : (xs.take (i + 1)).filter f = (xs.take i).filter f ++ (if f (xs.getD i 0) = true then [xs.getD i 0] else []) := by
 rw [List.take_add_one, List.getElem?_eq_getElem h, List.filter_append, List.getD_eq_getElem?_getD, List.getElem?_eq_getElem h]
 simp only [Option.toList, Option.getD]
 by_cases k : f xs[i] = true
 ·rw [if_pos k]; simp [k]
 ·rw [if_neg k]; simp [k]
set_option maxRecDepth 100000 in
set_option maxHeartbeats 8000000 in
theorem unlike07_calls (A : Option Addr) (c : Nat) (l : List S) (w : World) (hl : Kd.C k32 w A l.length l) (hc : l.length ≤ c) (h0 : (allF l).2 = 0) :
 Calls Tryz.prog 21 #[.slice A l.length c] w (Gives w (unlAll l)) := by
 have ho := order07_calls A c l w hl hc h0
 have ht := fun W (hb : Below w.heap.size w W) => twins07_calls A c l W (Kd.C_below hl hb) hc h0
 have hn : l.length ≤ 1048576 := ((allF_ok l).mp h0).1
 have hso := orderN_sorted l
 have hlo := hso.length
 have htw : twAll l = (List.range l.length).map (tw (PT l)) := by unfold twAll; rw [if_pos h0]
 rw [unlAll_eq h0]
 have hlt : ∀ i, i < l.length → (orderN l).getD i 0 < l.length := fun i hi => (hso.2 _).mp (by rw [getD_at (by omega)]; exact List.getElem_mem _)
 have htl : (twAll l).length = l.length := by rw [htw]; simp
 have hta : ∀ a, a < l.length → (twAll l).getD a 0 = tw (PT l) a := fun a ha => by rw [htw, getD_at (by simp; exact ha)]; simp
 have hfi : ∀ i, i < l.length → ((orderN l).take (i + 1)).filter (fst (PT l)) = ((orderN l).take i).filter (fst (PT l)) ++ (if (twAll l).getD ((orderN l).getD i 0) 0 = (orderN l).getD i 0 then [(orderN l).getD i 0] else []) := fun i hi => by
  rw [filter_take _ _ (by omega), hta _ (hlt i hi)]
  unfold fst
  simp only [decide_eq_true_iff]
 have hfl : ∀ i, (((orderN l).take i).filter (fst (PT l))).length ≤ 1048576 := fun i => by
  have h1 := List.length_filter_le (fst (PT l)) ((orderN l).take i)
  rw [List.length_take] at h1
  omega
 have hff : (orderN l).filter (fst (PT l)) = ((orderN l).take l.length).filter (fst (PT l)) := by rw [List.take_of_length_le (by omega)]
 rw [hff]
 clear hff hta htw hso
 obtain ⟨m, hm⟩ : ∃ m, m = l.length := ⟨_, rfl⟩
 rw [← hm] at hl hc hn hlo hlt htl hfi ho ht
 rw [← hm]
 generalize orderN l = oo at *
 generalize twAll l = tt at *
 generalize fst (PT l) = ff at *
 have HLO := Aside0.mk (And.intro hlo htl)
 have HFI := Aside0.mk (And.intro hfi hfl)
 have HLT := Aside0.mk hlt
 clear h0 hm hlo htl hfi hlt hfl
 go_enter Tryz.func21, Tryz.ntmps21
 go_wp2_with (first
  | (go_at_call 19; (with_reducible refine ho.mono ?_); rintro u w1 ⟨v1, rfl, hR1, hB1⟩)
  | (go_at_call 20; (with_reducible refine (ht _ hB1).mono ?_); rintro u w2 ⟨v2, rfl, hR2, hB2⟩))
 replace hR1 := Kd.R_below hR1 hB2
 obtain ⟨A1, c1, rfl⟩ := Kd.R_slice hR1
 obtain ⟨A2, c2, rfl⟩ := Kd.R_slice hR2
 obtain ⟨-, -, hC1⟩ := Kd.R_reads' hR1
 obtain ⟨-, -, hC2⟩ := Kd.R_reads' hR2
 rw [zi_length] at hC1 hC2
 rw [zi_length, HLO.out.1, zi_length, HLO.out.2]
 rw [HLO.out.1] at hC1
 rw [HLO.out.2] at hC2
 clear hR1 hR2 ho ht
 have hB12 := hB1.trans (hB2.mono hB1.size)
 go_loopw [5, 6] (fun v5 v6 wr => ∃ i : Nat, i ≤ m ∧ v6 = .int .i64 i ∧ Kd.R (Kd.int .i64) 3 wr w2.heap.size (fun _ => True) v5 (zi ((oo.take i).filter ff)) ∧ Below w2.heap.size w2 wr) (fun _ v6 _ => m - (intOf v6).toNat)
 case atStart => exact ⟨0, Nat.zero_le _, rfl, Kd.R_nil .., Below.refl _ _⟩
 case round =>
  obtain ⟨i, hi, rfl, hR, hB⟩ := hrel
  by_cases him : i < m
  ·have d1 : decide ((i : Int) < (m : Int)) = true := by simp; omega
   have d2 : decide (i < m) = true := by simp; omega
   have i1 : IntKind.i64.wrap ((i : Int) + 1) = (i : Int) + 1 := wrapI _ (by omega) (by omega)
   have ham := HLT.out i him
   obtain ⟨ob, o_, rfl, ho⟩ := row_at hC1 (by omega)
   obtain ⟨tb, t_, rfl, ht⟩ := row_at hC2 (by omega)
   have r1 := bcell hB (ho i him)
   rw [rdz (by rw [HLO.out.1]; exact him)] at r1
   have r2 := bcell hB (ht _ ham)
   rw [rdz (by rw [HLO.out.2]; exact ham)] at r2
   have hst := HFI.out.1 i him
   have hll := HFI.out.2 i
   clear ho ht
   have HST := Aside0.mk hst
   have HLL := Aside0.mk hll
   clear hst hll
   generalize tt.getD (oo.getD i 0) 0 = t at *
   generalize oo.getD i 0 = a at *
   have d3 : decide ((a : Int) < (m : Int)) = true := by simp; omega
   have d4 : decide (a < m) = true := by simp; omega
   have g1 : ∀ n, (wr.drewN n).cell? ⟨ob, o_ + i, none⟩ = some (.int .i64 a) := fun n => bcell (pw_below_drewN (Below.refl wr.heap.size wr) n) r1
   by_cases hta : t = a
   ·subst hta
    have hs := HST.out
    rw [if_pos rfl] at hs
    have HS := Aside0.mk hs
    clear hs HST
    go_upto_region 7 with (fail)
    go_quiet (fail)
    have r3 := g1 nq
    have hRq := Kd.R_below hR (pw_below_drewN (Below.refl wr.heap.size wr) nq)
    have hBq := pw_below_drewN hB nq
    clear r1 r2 g1 hR hB hl
    generalize wr.drewN nq = W7 at *
    go_wp2_with (refine wp_ck (.inl hRq) hBq hBq.size (Nat.le_trans HLL.out (by omega)) rfl (.tmp 29) (.tmp 34) rfl rfl rfl rfl (by first | rfl | simp) ?_; intro v1 w1 hR2 hB9)
    exact ⟨⟨i + 1, by omega, by go_num, by rw [HS.out]; exact hR2, hB9⟩, by simp [intOf]; omega⟩
   ·have f1 : decide ((t : Int) = (a : Int)) = false := by simp; omega
    have f2 : decide (t = a) = false := by simp; omega
    have f3 : ((t : Int) == (a : Int)) = false := by simp; omega
    have f4 : (t == a) = false := by simp; omega
    have hs := HST.out
    rw [if_neg hta, List.append_nil] at hs
    have HS := Aside0.mk hs
    clear hs HST hta
    go_upto_region 7 with (fail)
    go_quiet (fail)
    go_wp2
    exact ⟨⟨i + 1, by omega, by go_num, by rw [HS.out]; exact Kd.R_below hR (pw_below_drewN (Below.refl wr.heap.size wr) nq), pw_below_drewN hB nq⟩, by simp [intOf]; omega⟩
  ·obtain rfl : i = m := by omega
   have d1 : decide ((i : Int) < (i : Int)) = false := by simp
   have d2 : decide (i < i) = false := by simp
   have hRR := Kd.R_lower hR hB12.size
   clear hR
   go_wp2
   go_ret
   exact ⟨_, rfl, hRR, hB12.trans (hB.mono hB12.size)⟩
end Go.Proofs.YtioahkblhekgpaaGreatDoor.Nw
namespace Go.Proofs.YtioahkblhekgpaaGreatDoor.Nw
open Go.RowKit Go.Proofs.YtioahkblhekgpaaGreatDoor.FltP Go.Proofs.YtioahkblhekgpaaGreatDoor.R Go.Proofs.YtioahkblhekgpaaGreatDoor.E Go.Proofs.YtioahkblhekgpaaGreatDoor.O Go.Proofs.YtioahkblhekgpaaGreatDoorW.PrintWords Go.Proofs.YtioahkblhekgpaaGreatDoorW.PrintLast Go.Proofs.YtioahkblhekgpaaGreatDoorW.PrintMore
open Go.Proofs.YtioahkblhekgpaaGreatDoor.NumP Go.Proofs.YtioahkblhekgpaaGreatDoor.Adm
attribute [local go_sem high] eqPt
theorem nil_own {W : World} {base : Nat} (hb : base ≤ W.heap.size) : Kd.R k32 32 (W.alloc (.cells #[] 32)) base (fun _ => True) (.slice (some ⟨W.heap.size, 0, none⟩) 0 0) [] :=
 ⟨fun _ _ => trivial, [], World.ownsRow_lit W #[] 0 hb (by simp [maxLen]) rfl, ⟨by simp, by simp⟩⟩
end Go.Proofs.YtioahkblhekgpaaGreatDoor.Nw
namespace Go.Proofs.YtioahkblhekgpaaGreatDoor.Nw
open Go.RowKit Go.Proofs.YtioahkblhekgpaaGreatDoor.FltP Go.Proofs.YtioahkblhekgpaaGreatDoor.R Go.Proofs.YtioahkblhekgpaaGreatDoor.E Go.Proofs.YtioahkblhekgpaaGreatDoor.O Go.Proofs.YtioahkblhekgpaaGreatDoorW.PrintWords Go.Proofs.YtioahkblhekgpaaGreatDoorW.PrintLast Go.Proofs.YtioahkblhekgpaaGreatDoorW.PrintMore
open Go.Proofs.YtioahkblhekgpaaGreatDoor.NumP Go.Proofs.YtioahkblhekgpaaGreatDoor.Adm
attribute [local go_sem high] eqPt
def Rw (w : World) (g n : Nat) : Prop := ∃ cs : Array Value, w.heap[g]? = some (.cells cs 3 (0, 0)) ∧ n ≤ cs.size
theorem Rw.below {w w' : World} {g n : Nat} (h : Rw w g n) (hb : Below w.heap.size w w') : Rw w' g n := by
 obtain ⟨cs, h1, h2⟩ := h
 exact ⟨cs, blk_below h1 hb, h2⟩
theorem Rw.cell {w : World} {g n i : Nat} (h : Rw w g n) (hi : i < n) : (∃ v, w.cell? ⟨g, i, none⟩ = some v) ∧ w.frozen? ⟨g, i, none⟩ = false := by
 obtain ⟨cs, h1, h2⟩ := h
 exact ⟨⟨cs[i], by rw [blk_cell h1, Array.getElem?_eq_getElem (by omega)]⟩, blk_frozen h1 i⟩
theorem Rw.put {w : World} {g n : Nat} (h : Rw w g n) (i : Nat) (v : Value) : Rw (w.setCell ⟨g, i, none⟩ v) g n := by
 obtain ⟨cs, h1, h2⟩ := h
 exact ⟨_, blk_put h1 i v rfl, by simpa using h2⟩
theorem Rw.far {w : World} {g n : Nat} (h : Rw w g n) {p : Addr} (hp : g ≠ p.block) (v : Value) : Rw (w.setCell p v) g n := by
 obtain ⟨cs, h1, h2⟩ := h
 exact ⟨cs, blk_far h1 hp v, h2⟩
def Gd (lo hi : Nat) (w : World) (A : Option Addr) (g n : Nat) : Prop := 0 < n → A = some ⟨g, 0, none⟩ ∧ lo ≤ g ∧ g < hi ∧ Rw w g n
theorem Gd.below {lo hi : Nat} {w w' : World} {A : Option Addr} {g n : Nat} (h : Gd lo hi w A g n) (hb : Below w.heap.size w w') : Gd lo hi w' A g n := fun hn => ⟨(h hn).1, (h hn).2.1, (h hn).2.2.1, (h hn).2.2.2.below hb⟩
theorem Gd.far {lo hi : Nat} {w : World} {A : Option Addr} {g n : Nat} (h : Gd lo hi w A g n) {p : Addr} (hp : p.block < lo ∨ hi ≤ p.block) (v : Value) : Gd lo hi (w.setCell p v) A g n := fun hn => by
 obtain ⟨e, h1, h2, h3⟩ := h hn
 exact ⟨e, h1, h2, h3.far (by omega) v⟩
theorem Gd.put {lo hi : Nat} {w : World} {A : Option Addr} {g n : Nat} (h : Gd lo hi w A g n) (i : Nat) (v : Value) : Gd lo hi (w.setCell ⟨g, i, none⟩ v) A g n := fun hn => by
 obtain ⟨e, h1, h2, h3⟩ := h hn
 exact ⟨e, h1, h2, h3.put i v⟩
theorem gives_form {w w' : World} {xs : List Nat} {n : Nat} {e : Ending} (h : Gives w xs e w') (hn : xs.length = n) :
 ∃ A c g, e = .returned (.slice A n c) ∧ Kd.C (Kd.int .i64) w' A n (zi xs) ∧ Gd w.heap.size w'.heap.size w' A g n ∧ Below w.heap.size w w' := by
 obtain ⟨v, rfl, hR, hb⟩ := h
 rcases Nat.eq_zero_or_pos n with h0 | h0
 ·obtain ⟨A, c, rfl⟩ := Kd.R_slice hR
  have hC := (Kd.R_reads' hR).2.2
  rw [zi_length, hn] at hC ⊢
  exact ⟨A, c, 0, rfl, hC, fun h => absurd h (by omega), hb⟩
 ·obtain ⟨g, cap, rfl, h1, h2, cs, h3⟩ := Kd.R_form hR (by rw [zi_length]; omega)
  have hC := (Kd.R_reads' hR).2.2
  rw [zi_length, hn] at hC ⊢
  refine ⟨_, cap, g, rfl, hC, fun _ => ⟨rfl, h1, h2, cs, h3, ?_⟩, hb⟩
  have := row_cells hC (n - 1) (by omega)
  rw [blk_cell h3] at this
  have := (Array.getElem?_eq_some_iff.mp this).1
  omega
end Go.Proofs.YtioahkblhekgpaaGreatDoor.Nw
