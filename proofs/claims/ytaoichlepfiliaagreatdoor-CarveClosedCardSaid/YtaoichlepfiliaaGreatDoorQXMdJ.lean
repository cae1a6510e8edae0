/- Lemmas of MdJ. Conditions stand in each. -/
import Derived.Test.YtaoichlepfiliaaGreatDoorQXMdB
import Derived.Test.YtaoichlepfiliaaGreatDoorQXMdH
import Derived.Test.YtaoichlepfiliaaGreatDoorQXNwg
import Derived.Test.YtaoichlepfiliaaGreatDoorQXRfj
import Derived.Test.YtaoichlepfiliaaGreatDoorRows
import Derived.WalkKit
import Derived.ProofKit
import Derived.OpenShut
import Derived.ShutString
import Derived.ChangeOld
import Derived.Below
import Derived.SizedLaws
import Derived.Lib.SmallJoins
import Derived.Carry
import Derived.Laws.Cover2
import Derived.LaidMore
import Derived.Stop.Joined
import Derived.Deep.Slices
import Derived.Maps.OwnOps
import Derived.Test.YtaoichlepfiliaaGreatDoorQXMcj
set_option linter.unusedSimpArgs false
set_option linter.unusedVariables false
section
namespace Go.Proofs.YtaoichlepfiliaaGreatDoor.Msh
open Go.RowKit Go.Sort Go.ChangeMaps Go.MapKept Go.Proofs.YtaoichlepfiliaaGreatDoor.Mp Go.Proofs.YtaoichlepfiliaaGreatDoor.Adm Go.Proofs.YtaoichlepfiliaaGreatDoor.Kfl Go.Proofs.YtaoichlepfiliaaGreatDoor.R Go.Proofs.YtaoichlepfiliaaGreatDoor.E Go.Proofs.YtaoichlepfiliaaGreatDoorW.PrintWords Go.Proofs.YtaoichlepfiliaaGreatDoorW.PrintLast
theorem at_in {w : World} {A : Option Addr} {n : Nat} {xs : List Int} (h : Kd.C (Kd.int .i64) w A n xs) {i : Nat} (h1 : i < n) (hx : i < xs.length) : ∃ ad, A = some ad ∧ w.cell? (ad.add i) = some (.int .i64 xs[i]) := by
 obtain ⟨ad, c, e, _, hK, hc0⟩ := Kd.C_get h 0 (i : Int) (by omega) (by omega)
 have hc : ∀ j u, c[j]? = some u → w.cell? (ad.add (i * 1 + j)) = some u := hc0
 rw [show (i : Int).toNat = i by omega, List.getD_eq_getElem?_getD, List.getElem?_eq_getElem hx] at hK
 obtain rfl := ((flat_int .i64).K _ _ _).mp hK
 exact ⟨ad, e, by have := hc 0 _ rfl; rwa [Nat.mul_one, Nat.add_zero] at this⟩
theorem at_ed {w : World} {A : Option Addr} {n : Nat} {xs : List (Int × Int)} (h : Kd.C kEd w A n xs) {i : Nat} (h1 : i < n) (hx : i < xs.length) : ∃ ad, A = some ad ∧ w.cell? (ad.add (i * 2)) = some (.int .i64 xs[i].1) ∧ w.cell? ⟨(ad.add (i * 2)).block, (ad.add (i * 2)).off + 1, none⟩ = some (.int .i64 xs[i].2) := by
 obtain ⟨ad, c, e, _, hK, hc0⟩ := Kd.C_get h (0, 0) (i : Int) (by omega) (by omega)
 have hc : ∀ j u, c[j]? = some u → w.cell? (ad.add (i * 2 + j)) = some u := hc0
 rw [show (i : Int).toNat = i by omega, List.getD_eq_getElem?_getD, List.getElem?_eq_getElem hx] at hK
 obtain rfl := (flatE.K _ _ _).mp hK
 exact ⟨ad, e, hc 0 _ rfl, by rw [← add_field _ _ 1 (by omega)]; exact hc 1 _ rfl⟩
set_option maxRecDepth 100000 in
set_option maxHeartbeats 16000000 in
theorem carveClosed_run (AP : Option Addr) (cP : Nat) (l : List S) (AT : Option Addr) (cT : Nat) (Ts : List Tr) (AF : Option Addr) (cF : Nat) (Fs : List Tr) (AL : Option Addr) (cL : Nat) (lp : List S) (w : World) (hP : Kd.C k71 w AP l.length l) (hcP : l.length ≤ cP) (hT : Kd.C kTr w AT Ts.length Ts) (hF : Kd.C kTr w AF Fs.length Fs) (hL : Kd.C k71 w AL lp.length lp) (_hcL : lp.length ≤ cL) (hw : Wd l) (_hokT : ∀ t ∈ Ts, okT t) (hokF : ∀ t ∈ Fs, okT t) (hwl : Wd lp) :
 Calls Tryz.prog 6 #[.agg #[.slice AP l.length cP, .slice AT Ts.length cT, .slice AF Fs.length cF], .slice AL lp.length cL] w fun e w' => e = .returned (.bool true) ∧ Below w.heap.size w w' := by
 obtain ⟨W1, hW1⟩ : ∃ W1, W1 = w.alloc (.cells #[.slice AP l.length cP, .slice AT Ts.length cT, .slice AF Fs.length cF] 26) := ⟨_, rfl⟩
 have hB1 : Below w.heap.size w W1 := by rw [hW1]; exact below_alloc (Below.refl _ _) _
 have hbx : W1.heap[w.heap.size]? = some (.cells #[.slice AP l.length cP, .slice AT Ts.length cT, .slice AF Fs.length cF] 26 (0, 0)) := by rw [hW1]; exact blk_new _ _
 have HB1 := Aside0.mk hB1
 have c0 := (blk_cell hbx 0).trans (show _ = some (Value.slice AP l.length cP) from rfl)
 have c1 := (blk_cell hbx 1).trans (show _ = some (Value.slice AT Ts.length cT) from rfl)
 have c2 := (blk_cell hbx 2).trans (show _ = some (Value.slice AF Fs.length cF) from rfl)
 have hla := fun W => large_call AP l.length cP AT Ts.length cT AF Fs.length cF W
 have HWL : Aside0 (∀ x ∈ lp, wdS x) := ⟨fun x hx => hwl x hx⟩
 by_cases hall : (decide (40 < l.length) || (decide (60 < Ts.length) || decide (60 < Fs.length))) = true ∨ 20 < lp.length ∨ lp.all gp = false
 ·have hra : lp.length ≤ 20 → ∀ W, Below w.heap.size w W → Calls Tryz.prog 13 #[.slice AL lp.length cL] W fun e w' => e = .returned (.bool (lp.all gp)) ∧ Below W.heap.size W w' := fun h W hW => range1_call AL cL lp W (Kd.C_below hL hW) (by omega) HWL.out
  have HG := Aside0.mk (Below.refl W1.heap.size W1)
  clear hbx hP hT hF hL hcP hw hokF hwl
  generalize (decide (40 < l.length) || (decide (60 < Ts.length) || decide (60 < Fs.length))) = big at *
  cases big with
  | true =>
   clear hall hra hB1
   go_enter Tryz.func6, Tryz.ntmps6
   go_upto_region 1 with (fail)
   rw [← hW1]
   clear hW1
   go_wp2_with (first
    | (go_at_call 7; (with_reducible refine (works_call _).mono ?_); rintro u_ w2 ⟨rfl, hb⟩; have HG := Aside0.mk (HG.out.trans (hb.mono HG.out.size)); have e0 := bcell HG.out c0; have e1 := bcell HG.out c1; have e2 := bcell HG.out c2; clear hb)
    | (go_at_call 8; (with_reducible refine (hla _).mono ?_); rintro u_ w3 ⟨rfl, hb⟩; have HG := Aside0.mk (HG.out.trans (hb.mono HG.out.size)); clear hb))
   go_ret
   exact ⟨rfl, HB1.out.trans (HG.out.mono HB1.out.size)⟩
  | false =>
   by_cases h20 : 20 < lp.length
   ·have q1 : decide (20 < lp.length) = true := decide_eq_true h20
    have q2 : decide ((20 : Int) < (lp.length : Int)) = true := by simp; omega
    clear hall hra hB1 h20
    go_enter Tryz.func6, Tryz.ntmps6
    go_upto_region 1 with (fail)
    rw [← hW1]
    clear hW1
    go_wp2_with (first
     | (go_at_call 7; (with_reducible refine (works_call _).mono ?_); rintro u_ w2 ⟨rfl, hb⟩; have HG := Aside0.mk (HG.out.trans (hb.mono HG.out.size)); have e0 := bcell HG.out c0; have e1 := bcell HG.out c1; have e2 := bcell HG.out c2; clear hb)
     | (go_at_call 8; (with_reducible refine (hla _).mono ?_); rintro u_ w3 ⟨rfl, hb⟩; have HG := Aside0.mk (HG.out.trans (hb.mono HG.out.size)); clear hb))
    go_ret
    exact ⟨rfl, HB1.out.trans (HG.out.mono HB1.out.size)⟩
   ·have hag : lp.all gp = false := by
     rcases hall with h | h | h
     ·cases h
     ·exact absurd h h20
     ·exact h
    have hra2 := fun W hW => hra (by omega) W hW
    rw [hag] at hra2
    have q1 : decide (20 < lp.length) = false := decide_eq_false h20
    have q2 : decide ((20 : Int) < (lp.length : Int)) = false := by simp; omega
    clear hall hra h20 hag hB1
    go_enter Tryz.func6, Tryz.ntmps6
    go_upto_region 1 with (fail)
    rw [← hW1]
    clear hW1
    go_wp2_with (first
     | (go_at_call 7; (with_reducible refine (works_call _).mono ?_); rintro u_ w2 ⟨rfl, hb⟩; have HG := Aside0.mk (HG.out.trans (hb.mono HG.out.size)); have e0 := bcell HG.out c0; have e1 := bcell HG.out c1; have e2 := bcell HG.out c2; clear hb)
     | (go_at_call 8; (with_reducible refine (hla _).mono ?_); rintro u_ w3 ⟨rfl, hb⟩; have HG := Aside0.mk (HG.out.trans (hb.mono HG.out.size)); clear hb)
     | (go_at_call 13; (with_reducible refine (hra2 _ (HB1.out.trans (HG.out.mono HB1.out.size))).mono ?_); rintro u_ w4 ⟨rfl, hb⟩; have HG := Aside0.mk (HG.out.trans (hb.mono HG.out.size)); clear hb))
    go_ret
    exact ⟨rfl, HB1.out.trans (HG.out.mono HB1.out.size)⟩
 ·have hbig : (decide (40 < l.length) || (decide (60 < Ts.length) || decide (60 < Fs.length))) = false := by
   cases h : (decide (40 < l.length) || (decide (60 < Ts.length) || decide (60 < Fs.length))) with
   | false => rfl
   | true => exact absurd (.inl h) hall
  have h20 : lp.length ≤ 20 := by
   rcases Nat.lt_or_ge 20 lp.length with h | h
   ·exact absurd (.inr (.inl h)) hall
   ·exact h
  have hag : lp.all gp = true := by
   cases h : lp.all gp with
   | true => rfl
   | false => exact absurd (.inr (.inr h)) hall
  have hsm : Ts.length ≤ 60 ∧ Fs.length ≤ 60 := by simp at hbig; omega
  rw [hbig] at hla
  have hra : ∀ W, Below w.heap.size w W → Calls Tryz.prog 13 #[.slice AL lp.length cL] W fun e w' => e = .returned (.bool true) ∧ Below W.heap.size W w' := fun W hW => by
   have := range1_call AL cL lp W (Kd.C_below hL hW) (by omega) HWL.out
   rw [hag] at this
   exact this
  have hbo := fun W (hb : Below W1.heap.size W1 W) => both_call AP cP l AT cT Ts AF cF Fs W (Kd.C_below (Kd.C_below hP hB1) hb) hcP hw (Kd.C_below (Kd.C_below hT hB1) hb) (Kd.C_below (Kd.C_below hF hB1) hb) (by omega) (by omega) (fun t ht => ⟨(hokF t ht).1, (hokF t ht).2.1⟩)
  have HS := Aside0.mk hsm
  have HLP := Aside0.mk (And.intro hL (And.intro (show lp.length ≤ 1099511627776 by omega) (List.all_eq_true.mp hag)))
  have q1 : decide (20 < lp.length) = false := decide_eq_false (by omega)
  have q2 : decide ((20 : Int) < (lp.length : Int)) = false := by simp; omega
  have HG := Aside0.mk (Below.refl W1.heap.size W1)
  clear hall hbig h20 hag hsm hbx hP hT hF hL hcP hw hokF hwl hB1
  go_enter Tryz.func6, Tryz.ntmps6
  go_upto_region 1 with (fail)
  rw [← hW1]
  clear hW1
  go_upto_region 4 with (first
   | (go_at_call 7; (with_reducible refine (works_call _).mono ?_); rintro u_ w2 ⟨rfl, hb⟩; have HG := Aside0.mk (HG.out.trans (hb.mono HG.out.size)); have e0 := bcell HG.out c0; have e1 := bcell HG.out c1; have e2 := bcell HG.out c2; clear hb)
   | (go_at_call 8; (with_reducible refine (hla _).mono ?_); rintro u_ w3 ⟨rfl, hb⟩; have HG := Aside0.mk (HG.out.trans (hb.mono HG.out.size)); have e0 := bcell HG.out c0; have e1 := bcell HG.out c1; have e2 := bcell HG.out c2; clear hb)
   | (go_at_call 13; (with_reducible refine (hra _ (HB1.out.trans (HG.out.mono HB1.out.size))).mono ?_); rintro u_ w4 ⟨rfl, hb⟩; have HG := Aside0.mk (HG.out.trans (hb.mono HG.out.size)); have e0 := bcell HG.out c0; have e1 := bcell HG.out c1; have e2 := bcell HG.out c2; clear hb)
   | (go_at_call 9; (with_reducible refine (hbo _ HG.out).mono ?_); rintro u_ w5 (⟨-, rfl, hb4⟩ | ⟨h04, mb, xb, M, X, rfl, hB4⟩)))
  ·go_wp2
   go_ret
   exact ⟨rfl, HB1.out.trans ((HG.out.trans (hb4.mono HG.out.size)).mono HB1.out.size)⟩
  ·have htr := tris_call hB4.m
   have HW0 : Aside0 (∀ k, M k → w.heap.size ≤ k ∧ k < w5.heap.size) := ⟨fun k hk => ⟨Nat.le_trans (Nat.le_trans HB1.out.size HG.out.size) (hB4.hm k hk), hB4.m.old k hk⟩⟩
   have hOl : (bothO l Ts).length ≤ 60 := by
    have h1 := (both_law l Ts).2
    have h2 := foldT_len l Ts
    have h3 := HS.out.1
    rw [← h1, tris_length]
    omega
   have HB5 : Aside0 (Below w.heap.size w w5) := ⟨HB1.out.trans ((HG.out.trans (hB4.b.mono HG.out.size)).mono HB1.out.size)⟩
   have HM5 := Aside0.mk hB4.m
   have HOL := Aside0.mk hOl
   have HM0 := Aside0.mk (mesh_mesh hB4.m)
   clear hbo hla hra c0 c1 c2 e0 e1 e2 h04 hOl hB4
   go_upto_region 7 with (go_at_call 16; (with_reducible refine htr.mono ?_); rintro u_ w6 ⟨v7, rfl, hR6, hb6⟩; obtain ⟨A7, c7, hv7⟩ := (tr_row.mp hR6).any; subst hv7)
   have HC6 : Aside0 (Cl w w5.heap.size mb l (bothO l Ts) (bothF l Fs) M (.slice A7 (bothO l Ts).length c7) (bothO l Ts) 0 w6) := ⟨⟨HM5.out.below hb6, hR6, fun _ h => h, Nat.le_refl _, HB5.out.trans (hb6.mono HB5.out.size), HW0.out⟩⟩
   clear htr hR6 hb6
   generalize bothO l Ts = O0 at *
   generalize bothF l Fs = F at *
   go_wp2
   go_loopw [8] (fun v8 wr => ∃ (i g : Nat) (O : List Tr), v8 = .int .i64 i ∧ i ≤ g ∧ Aside0 (Cl w w5.heap.size mb l O0 F M (.slice A7 O0.length c7) O g wr)) (fun v8 _ => O0.length + 1 - (intOf v8).toNat)
   case atStart => exact ⟨0, 0, _, rfl, Nat.le_refl _, HC6⟩
   case round =>
    clear HC6
    obtain ⟨i, g, O, rfl, hi, HC⟩ := hrel
    have hgl := HC.out.le
    have d1 : decide ((i : Int) ≤ (O0.length : Int)) = true := by simp; omega
    have d2 : decide (i ≤ O0.length) = true := by simp; omega
    have ii : IntKind.i64.wrap ((i : Int) + 1) = (i : Int) + 1 := wrapN (by omega) (by have := HOL.out; omega)
    have ho := HC.out.outer
    have HGL := Aside0.mk hgl
    clear hgl
    go_upto_region 14 with (first
     | (go_at_call 10; (with_reducible refine ho.mono ?_); rintro u_ w7 ⟨n1, O1, rfl, hC7, hn1, -⟩; have hh := hC7.holes (c := cL) HLP.out.1 HLP.out.2.1 HWL.out HLP.out.2.2)
     | (go_at_call 12; (with_reducible refine hh.mono ?_); rintro u_ w8 ⟨n2, O2, rfl, hC8, hn2⟩))
    have hle := hC8.le
    have ia : IntKind.i64.wrap ((n1 : Int) + (n2 : Int)) = ((n1 + n2 : Nat) : Int) := by rw [wrapN (by omega) (by have := HOL.out; omega)]; omega
    have HC8 := Aside0.mk hC8
    have HNN := Aside0.mk (And.intro hn1 hn2)
    clear ho hh hC7 hn1 hn2 hC8 hle
    by_cases hn : n1 + n2 = 0
    ·have p1 : n1 = 0 := by omega
     have p2 : n2 = 0 := by omega
     subst p1 p2
     obtain ⟨e1, f1⟩ := HNN.out.1 rfl
     subst e1
     obtain ⟨e2, f2⟩ := HNN.out.2 rfl
     subst e2
     have HF := Aside0.mk (And.intro f1 f2)
     clear f1 f2 hn ia HNN
     have ia : IntKind.i64.wrap (0 : Int) = 0 := by decide
     have ho2 := HC8.out.outer
     go_upto_region 17 with (first
      | (go_at_call 10; (with_reducible refine ho2.mono ?_); rintro u_ w9 ⟨n3, O3, rfl, hC9, hn3, hz3⟩; have p3 := hz3 HF.out.1; subst p3; have e3 := (hn3 rfl).1; subst e3; have hsp := hC9.spread (c := cL) HLP.out.1 HLP.out.2.1 HWL.out HLP.out.2.2 HF.out.2)
      | (go_at_call 27; (with_reducible refine hsp.mono ?_); rintro u_ wa ⟨A15, c15, rfl, hK, hba⟩))
     have HCa := Aside0.mk (hC9.below hba)
     have hct := count_call HCa.out.mesh
     clear ho2 hn3 hz3 hsp hC9 hba HC8
     go_upto_region 19 with (go_at_call 25; (with_reducible refine hct.mono ?_); rintro u_ wb ⟨rfl, rfl⟩)
     go_wp2
     go_loopw [17] (fun v17 wr => ∃ j : Nat, v17 = .int .i64 j ∧ j ≤ O3.length ∧ Below wa.heap.size wa wr) (fun v17 _ => O3.length - (intOf v17).toNat)
     case atStart => exact ⟨0, rfl, Nat.zero_le _, Below.refl _ _⟩
     case round =>
      obtain ⟨j, rfl, hj, hB⟩ := hrel
      by_cases hlt : j < O3.length
      ·obtain ⟨ad, rfl, x0⟩ := at_in (Kd.C_below hK hB) hlt (by rw [List.length_map]; exact hlt)
       rw [List.getElem_map] at x0
       have b1 : decide ((j : Int) < (O3.length : Int)) = true := by simp; omega
       have b2 : decide (j < O3.length) = true := decide_eq_true hlt
       have b3 : ((j < O3.length) = True) := by simp; exact hlt
       have ij : IntKind.i64.wrap ((j : Int) + 1) = (j : Int) + 1 := wrapN (by omega) (by have := HCa.out.le; have := HOL.out; omega)
       go_wp2
       go_roundw
       case rel => exact ⟨j + 1, by go_num, by omega, hB⟩
       case measure => simp [intOf]; omega
      ·have b1 : decide ((j : Int) < (O3.length : Int)) = false := by simp; omega
       have b2 : decide (j < O3.length) = false := decide_eq_false hlt
       have b3 : ((j < O3.length) = False) := by simp; omega
       have HCr := Aside0.mk (HCa.out.below hB)
       have hbd := border_call HCr.out.mesh
       clear hj hlt hK hct hB
       go_upto_region 25 with (go_at_call 30; (with_reducible refine hbd.mono ?_); rintro u_ wc ⟨v18, E, rfl, hRE, hE, hEl, hbc⟩; obtain ⟨A18, c18, hv18, -, hKE⟩ := Kd.R_reads hRE; subst hv18)
       have HCc := Aside0.mk (HCr.out.below hbc)
       have HE := Aside0.mk hE
       have HEl := Aside0.mk hEl
       clear hbd hRE hE hbc b1 b2 b3 HCr hEl
       go_wp2
       go_loopw [19] (fun v19 wr => ∃ j : Nat, v19 = .int .i64 j ∧ j ≤ E.length ∧ Below wc.heap.size wc wr) (fun v19 _ => E.length - (intOf v19).toNat)
       case atStart => exact ⟨0, rfl, Nat.zero_le _, Below.refl _ _⟩
       case round =>
        obtain ⟨j, rfl, hj, hB⟩ := hrel
        by_cases hlt : j < E.length
        ·obtain ⟨ad, rfl, -⟩ := at_ed hKE hlt hlt
         have hfi := fun W (hW : Below wc.heap.size wc W) => fixed_call (HCc.out.mesh.below hW) (HE.out _ (List.getElem_mem hlt)).2.2.1 (HE.out _ (List.getElem_mem hlt)).2.2.2
         rw [border_fixed (mesh_mesh HCc.out.mesh).1 HF.out.1 (HE.out _ (List.getElem_mem hlt)).1 (HE.out _ (List.getElem_mem hlt)).2.1] at hfi
         have HX : Aside0 (∀ W, Below wc.heap.size wc W → W.cell? (ad.add (j * 2)) = some (.int .i64 E[j].1) ∧ W.cell? ⟨(ad.add (j * 2)).block, (ad.add (j * 2)).off + 1, none⟩ = some (.int .i64 E[j].2)) := ⟨fun W hW => by
          obtain ⟨ad', e, q⟩ := at_ed (Kd.C_below hKE hW) hlt hlt
          injection e with e
          subst e
          exact q⟩
         have b1 : decide ((j : Int) < (E.length : Int)) = true := by simp; omega
         have b2 : decide (j < E.length) = true := decide_eq_true hlt
         have b3 : ((j < E.length) = True) := by simp; exact hlt
         have ij : IntKind.i64.wrap ((j : Int) + 1) = (j : Int) + 1 := wrapN (by omega) (by have := HEl.out; omega)
         generalize (fixO F E[j].1 E[j].2).getD 0 = fv at *
         generalize E[j] = p at *
         obtain ⟨x0, x1⟩ := HX.out _ hB
         go_upto_region 28 with (fail)
         go_region_held3 (fun W => W.cell? (ad.add (j * 2)) = some (.int .i64 p.1) ∧ W.cell? ⟨(ad.add (j * 2)).block, (ad.add (j * 2)).off + 1, none⟩ = some (.int .i64 p.2))
          ((with_reducible refine HX.out _ ?_; (repeat (first | assumption | exact Below.refl _ _ | apply below_drew1 | apply below_alloc | apply pw_below_drewN))))
          ((go_at_call 23; (with_reducible refine (hfi _ (by (with_reducible (repeat (first | assumption | apply below_drew1 | apply below_alloc | apply pw_below_drewN))))).mono ?_); rintro u_ w7 ⟨rfl, hg7⟩; have hB7 := below_step (w := wc) (by (with_reducible (repeat (first | assumption | apply below_drew1 | apply below_alloc | apply pw_below_drewN)))) hg7.below; clear hg7))
         all_goals
          go_wp2
          go_roundw
          case rel => exact ⟨j + 1, by go_num, by omega, by (with_reducible (repeat (first | exact hB7 | apply below_drew1 | apply below_alloc | apply pw_below_drewN)))⟩
          case measure => simp [intOf]; omega
        ·have b1 : decide ((j : Int) < (E.length : Int)) = false := by simp; omega
         have b2 : decide (j < E.length) = false := decide_eq_false hlt
         have b3 : ((j < E.length) = False) := by simp; omega
         have HCr := Aside0.mk (HCc.out.below hB)
         have htr := tris_call HCr.out.mesh
         clear hj hlt hKE hB
         go_upto_region 33 with (go_at_call 16; (with_reducible refine htr.mono ?_); rintro u_ wd ⟨v22, rfl, hR22, hbd⟩; obtain ⟨A22, c22, hv22, -, hK22⟩ := Kd.R_reads hR22; subst hv22)
         have HCd := Aside0.mk (HCr.out.below hbd)
         have hK7 := (Kd.R_reads' HCd.out.row).2.2
         have HPS := Aside0.mk (pos_spec HM0.out.1.up (mesh_mesh HCd.out.mesh).1.up HCd.out.sub)
         have HUP := Aside0.mk HM0.out.1.up
         have HLE := Aside0.mk (And.intro HCd.out.le HOL.out)
         clear htr hR22 hbd b1 b2 b3 HCr
         go_wp2
         go_loopw [23, 24] (fun v23 v24 wr => ∃ i k : Nat, v24 = .int .i64 i ∧ v23 = .int .i64 k ∧ i ≤ O3.length ∧ Aside0 ((i < O3.length → k ≤ posO O0 O3 i)) ∧ Below wd.heap.size wd wr) (fun _ v24 _ => O3.length - (intOf v24).toNat)
         case atStart => exact ⟨0, 0, rfl, rfl, Nat.zero_le _, ⟨fun _ => Nat.zero_le _⟩, Below.refl _ _⟩
         case round =>
          obtain ⟨i, k, rfl, rfl, hi, HK, hB⟩ := hrel
          by_cases hlt : i < O3.length
          ·obtain ⟨hp, hpe⟩ := HPS.out.1 i hlt
           have hk := HK.out hlt
           have HNX : Aside0 (i + 1 < O3.length → posO O0 O3 i ≤ posO O0 O3 (i + 1)) := ⟨fun h => Nat.le_of_lt (HPS.out.2 i (i + 1) (by omega) h)⟩
           have b1 : decide ((i : Int) < (O3.length : Int)) = true := by simp; omega
           have b2 : decide (i < O3.length) = true := decide_eq_true hlt
           have b3 : ((i < O3.length) = True) := by simp; exact hlt
           have ij : IntKind.i64.wrap ((i : Int) + 1) = (i : Int) + 1 := wrapN (by omega) (by have := HLE.out; omega)
           have HXT : Aside0 (∃ ad, A22 = some ad ∧ ∀ W, Below wd.heap.size wd W → W.cell? (ad.add (i * 3)) = some (.int .i64 O3[i].1) ∧ W.cell? ⟨(ad.add (i * 3)).block, (ad.add (i * 3)).off + 1, none⟩ = some (.int .i64 O3[i].2.1) ∧ W.cell? ⟨(ad.add (i * 3)).block, (ad.add (i * 3)).off + 2, none⟩ = some (.int .i64 O3[i].2.2)) := ⟨by
            obtain ⟨ad, rfl, -⟩ := at_tr hK22 hlt hlt
            refine ⟨ad, rfl, fun W hW => ?_⟩
            obtain ⟨ad', e, q⟩ := at_tr (Kd.C_below hK22 hW) hlt hlt
            injection e with e
            subst e
            exact q⟩
           have HNE : Aside0 (∀ k (hk : k < O0.length), k < posO O0 O3 i → O0[k] ≠ O3[i]) := ⟨fun k hk h => by rw [← hpe]; exact pos_ne HUP.out hk hp (by omega)⟩
           have HPE := Aside0.mk hpe
           obtain ⟨ad2, h22, hX2⟩ := HXT.out
           subst h22
           have HX2 := Aside0.mk hX2
           generalize O3[i] = t at *
           generalize posO O0 O3 i = pz at *
           clear HXT hX2 hpe
           go_wp2
           go_loopw [23] (fun v23 wr => ∃ k : Nat, v23 = .int .i64 k ∧ k ≤ pz ∧ Below wd.heap.size wd wr) (fun v23 _ => pz - (intOf v23).toNat)
           case atStart => exact ⟨k, rfl, hk, hB⟩
           case round =>
            clear hB hk HK
            obtain ⟨k, rfl, hk, hB⟩ := hrel
            have hlk : k < O0.length := by omega
            obtain ⟨ad, rfl, y0, y1, y2⟩ := at_tr (Kd.C_below hK7 hB) hlk hlk
            obtain ⟨x0, x1, x2⟩ := HX2.out _ hB
            have b4 : decide ((k : Int) < (O0.length : Int)) = true := by simp; omega
            have b5 : decide (k < O0.length) = true := decide_eq_true hlk
            have b6 : ((k < O0.length) = True) := by simp; exact hlk
            have ik : IntKind.i64.wrap ((k : Int) + 1) = (k : Int) + 1 := wrapN (by omega) (by have := HLE.out; omega)
            have hne := fun W => neq_tri W O0[k].1 O0[k].2.1 O0[k].2.2 t.1 t.2.1 t.2.2
            have hgd := fun W op o1 o2 => guard_tri W op o1 o2 #[.int .i64 O0[k].1, .int .i64 O0[k].2.1, .int .i64 O0[k].2.2] #[.int .i64 t.1, .int .i64 t.2.1, .int .i64 t.2.2]
            by_cases hkp : k < pz
            ·have hn0 := HNE.out k hlk hkp
             have hd : decide (O0[k].1 = t.1 ∧ O0[k].2.1 = t.2.1 ∧ O0[k].2.2 = t.2.2) = false := decide_eq_false (fun q => hn0 (Prod.ext q.1 (Prod.ext q.2.1 q.2.2)))
             rw [hd] at hne
             simp only [Bool.not_false] at hne
             clear hd hn0
             generalize O0[k] = s at *
             have HKP := Aside0.mk hkp
             clear hkp
             go_upto_region 36 with (fail)
             go_quiet (fail)
             go_wp2
             go_roundw
             case rel => exact ⟨k + 1, by go_num, by have := HKP.out; omega, pw_below_drewN hB _⟩
             case measure => have := HKP.out; simp [intOf]; omega
            ·have hkz : k = pz := by omega
             subst hkz
             have e0 := HPE.out
             have hd : decide (O0[k].1 = t.1 ∧ O0[k].2.1 = t.2.1 ∧ O0[k].2.2 = t.2.2) = true := decide_eq_true (by rw [e0]; exact ⟨rfl, rfl, rfl⟩)
             rw [hd] at hne
             simp only [Bool.not_true] at hne
             have c4 : decide ((k : Int) = (O0.length : Int)) = false := by simp; omega
             have c5 : ((k : Int) == (O0.length : Int)) = false := by simp; omega
             clear hd e0 HPE HNE hkp
             generalize O0[k] = s at *
             go_upto_region 36 with (fail)
             go_quiet (fail)
             go_wp2
             go_roundw
             case rel => exact ⟨i + 1, k, by go_num, rfl, by omega, HNX, pw_below_drewN hB _⟩
             case measure => simp [intOf]; omega
          ·have b1 : decide ((i : Int) < (O3.length : Int)) = false := by simp; omega
           have b2 : decide (i < O3.length) = false := decide_eq_false hlt
           have b3 : ((i < O3.length) = False) := by simp; omega
           go_wp2
           go_ret
           exact ⟨rfl, HCd.out.bel.trans (hB.mono HCd.out.bel.size)⟩
    ·have b1 : decide (((n1 + n2 : Nat) : Int) = 0) = false := decide_eq_false (by omega)
     have b2 : (((n1 + n2 : Nat) : Int) == 0) = false := by simp; omega
     have HN2 := Aside0.mk hn
     clear hn
     go_wp2
     go_roundw
     case rel => exact ⟨i + 1, g + n1 + n2, O2, by go_num, by have := HN2.out; omega, HC8⟩
     case measure => have := HGL.out; simp [intOf]; omega
end Go.Proofs.YtaoichlepfiliaaGreatDoor.Msh
end
section
namespace Go.Proofs.YtaoichlepfiliaaGreatDoor.carveClosed
open Go.ChangeShapes Go.WideShapes Go.ChangeAt Go.RowKit Go.Joins
theorem fact1 : joinedFacts Tryz.pinned.checked.prog 6 Tryz.f6 Rows.carveClosedSpec Rows.carveClosedRow = true := by kernel_rfl
theorem fact2 : Tryz.f6.isWrapper Tryz.pinned.checked.prog Rows.carveClosedRow.wrapper Rows.carveClosedRow.mainSum := by unfold Func.isWrapper; first | (rw [if_pos (by decide +kernel)]; kernel_rfl) | (rw [if_neg (by decide +kernel)]; exact ⟨rfl, rfl⟩)
theorem fact3 : Tryz.pinned.checked.prog.funcNamed Rows.carveClosedRow.func = some 6 := by kernel_rfl
theorem fact4 : Tryz.f6.isInstance Tryz.pinned.checked.prog Rows.carveClosedRow.origin Rows.carveClosedRow.targs := of_decide_eq_true (by kernel_rfl)
end Go.Proofs.YtaoichlepfiliaaGreatDoor.carveClosed
end
section
namespace Go.Proofs.YtaoichlepfiliaaGreatDoor.Pts
open Go.Deep Go.ChangeShapes Go.WideShapes Go.ChangeAt Go.RowKit Go.Joins Go.Proofs.YtaoichlepfiliaaGreatDoor.E Go.Proofs.YtaoichlepfiliaaGreatDoorW.PrintWords
theorem own : ownKnob Tryz.prog.godebug = none := by kernel_rfl
theorem laidOut : laidOutB Tryz.prog = true := by kernel_rfl
theorem cellsPt : Tryz.prog.cellsOf 71 = 2 := by kernel_rfl
theorem cellsF : Tryz.prog.cellsOf 69 = 1 := by kernel_rfl
theorem trod_f64 {H : Type} {enc : TypeId × Value → H} {P : Program} {w : World} {base : Nat} {spare : Nat → Bool} {held : Bool} {fuel : Nat} {t : TypeId} {cs : List Value} {x : DataW H × List MemPlace} (ht : P.underlying t = some (.float .f64)) (h : DataW.trod enc P w base spare held fuel t cs = some x) : ∃ b, cs = [.float .f64 b] ∧ x = (.lit (.float .f64 b), []) ∧ b < 2 ^ 64 := by
 cases fuel with
 | zero => simp [DataW.trod] at h
 | succ n =>
  unfold DataW.trod at h
  rw [ht] at h
  split at h <;> first | (simp_all; done) | skip
  rename_i k k' b hk
  cases hk
  split at h
  ·rename_i hw
   obtain ⟨rfl, hw⟩ := hw
   injection h with h
   exact ⟨b, rfl, h.symm, by simpa [Lit.wf] using hw⟩
  ·cases h
theorem two_of {cs : List Value} (h : cs.length = 2) : ∃ a b, cs = [a, b] := by
 match cs, h with
 | [a, b], _ => exact ⟨a, b, rfl⟩
set_option maxRecDepth 100000 in
theorem pt_cells {H : Type} {enc : TypeId × Value → H} {W : World} {base : Nat} {spare : Nat → Bool} {held : Bool} {n : Nat} {cs : List Value} {y : DataW H × List MemPlace} (hl : cs.length = 2) (h : DataW.trod enc Tryz.prog W base spare held n 71 cs = some y) :
 ∃ x : S71, cs = [.float .f64 x.f0, .float .f64 x.f1] ∧ x.f0 < 2 ^ 64 ∧ x.f1 < 2 ^ 64 := by
 obtain ⟨y0, y1, m, hx, _, h0, h1⟩ := trod_struct2 Tryz.underlying71 h
 obtain ⟨c0, c1, rfl⟩ := two_of hl
 ·have h0' : DataW.trod enc Tryz.prog W base spare held m 69 [c0] = some y0 := by simpa [cellsF] using h0
  have h1' : DataW.trod enc Tryz.prog W base spare held m 69 [c1] = some y1 := by simpa [cellsF] using h1
  obtain ⟨b0, e0, -, w0⟩ := trod_f64 Tryz.underlying69 h0'
  obtain ⟨b1, e1, -, w1⟩ := trod_f64 Tryz.underlying69 h1'
  injection e0 with e0 _
  injection e1 with e1 _
  subst e0 e1
  exact ⟨⟨b0, b1⟩, rfl, w0, w1⟩
instance : Inhabited S71 := ⟨⟨0, 0⟩⟩
set_option maxRecDepth 100000 in
theorem open_pts {H : Type} {enc : TypeId × Value → H} {W : World} {base : Nat} {spare : Nat → Bool} {held : Bool} {v : Value} {d : DataW H} {p : List MemPlace} {r : Reach} {b0 : Nat}
 (hv : Value.okWide Tryz.prog W r b0 22 v) (h : DataW.Trod enc Tryz.prog W base spare held 22 v d p) :
 ∃ (A : Option Addr) (l : List S71) (c : Nat), v = .slice A l.length c ∧ Kd.C k71 W A l.length l ∧ l.length ≤ c ∧ Adm.Wd l := by
 obtain ⟨A, n, c, rfl⟩ := okWide_slice Tryz.underlying22 hv
 obtain ⟨fuel, hf⟩ := h
 rcases open_slice Tryz.underlying22 hf with ⟨hcs, _⟩ | ⟨a, len, cap, m, n', D, Pl, hcs, _, hl, hm, hmm, _, hx⟩
 ·have e : Value.slice A n c = .slice none 0 0 := by simpa [Value.cells] using hcs
  injection e with e1 e2 e3
  subst e1 e2 e3
  exact ⟨none, [], 0, rfl, ⟨rfl, Nat.zero_le _, fun h => absurd h (Nat.lt_irrefl 0)⟩, Nat.le_refl _, fun x hx => by simp at hx⟩
 ·have e : Value.slice A n c = .slice (some a) len cap := by simpa [Value.cells] using hcs
  injection e with e1 e2 e3
  subst e1 e2 e3
  have hml : n ≤ m := by rw [hmm]; split <;> omega
  obtain ⟨F, hF⟩ := choose_lt (α := S71) (n := n) (p := fun i x => W.cell? (a.add (i * 2)) = some (.float .f64 x.f0) ∧ W.cell? (a.add (i * 2 + 1)) = some (.float .f64 x.f1) ∧ x.f0 < 2 ^ 64 ∧ x.f1 < 2 ^ 64) (fun i hi => by
   obtain ⟨cs', h1, h2⟩ := hx i (by omega)
   rw [cellsPt] at h1
   obtain ⟨_, hlen, hc⟩ := World.cells?_some h1
   obtain ⟨x, rfl, w0, w1⟩ := pt_cells hlen h2
   exact ⟨x, by have := hc 0 (by decide); rw [Deep.add_add] at this; exact this, by have := hc 1 (by decide); rw [Deep.add_add] at this; exact this, w0, w1⟩)
  refine ⟨some a, (List.range n).map F, c, by simp, ⟨by simp, ?_, fun _ => ⟨a, rfl, fun j x hj => ?_⟩⟩, by simpa using hl, fun x hx => ?_⟩
  ·have : maxLen = 9223372036854775807 := rfl
   simp; omega
  ·have hj' : j < n := by
    have := (List.getElem?_eq_some_iff.mp hj).1
    simpa using this
   obtain rfl : F j = x := by simpa [hj'] using hj
   obtain ⟨c0, c1, -, -⟩ := hF j hj'
   refine ⟨_, rfl, k71_mk W (F j), fun i u hi => ?_⟩
   match i, hi with
   | 0, hi => simp at hi; subst hi; exact c0
   | 1, hi => simp at hi; subst hi; exact c1
   | i + 2, hi => simp at hi
  ·obtain ⟨j, hj, rfl⟩ := List.mem_map.mp hx
   exact (hF j (List.mem_range.mp hj)).2.2
end Go.Proofs.YtaoichlepfiliaaGreatDoor.Pts
end
section
namespace Go.Proofs.YtaoichlepfiliaaGreatDoor.Pts
open Go.ChangeShapes Go.WideShapes Go.ChangeAt Go.RowKit
set_option maxRecDepth 100000 in
theorem door_met (os : Os) (args : Array Value) : laidMetH Tryz.prog [("math/bits.deBruijn32tab", Rows.laid_math_bits_deBruijn32tab)] ((World.doorLaid Tryz.prog 3000 os).forCall (fun _ _ => 0) ⟨#[], args, []⟩).memory :=
 laidMetH_of_parts3 (fuel := 8) (laidMet_of_run' 8 (by kernel_rfl) (by kernel_rfl)) (by kernel_rfl) (by kernel_rfl)
end Go.Proofs.YtaoichlepfiliaaGreatDoor.Pts
end
