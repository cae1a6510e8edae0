/- Lemmas of MdF. Conditions stand in each. -/
import Derived.Test.YtaoichlepfiliaaGreatDoorQWMdC
import Derived.Test.YtaoichlepfiliaaGreatDoorQWRfj
import Derived.Test.YtaoichlepfiliaaGreatDoorQWCla
import Derived.Test.YtaoichlepfiliaaGreatDoorQWMci
set_option linter.unusedSimpArgs false
set_option linter.unusedVariables false
namespace Go.Proofs.YtaoichlepfiliaaGreatDoor.Msh
open Go.RowKit Go.Sort Go.ChangeMaps Go.MapKept Go.Proofs.YtaoichlepfiliaaGreatDoor.Mp Go.Proofs.YtaoichlepfiliaaGreatDoor.Adm Go.Proofs.YtaoichlepfiliaaGreatDoor.Kfl Go.Proofs.YtaoichlepfiliaaGreatDoor.R Go.Proofs.YtaoichlepfiliaaGreatDoor.E Go.Proofs.YtaoichlepfiliaaGreatDoorW.PrintWords Go.Proofs.YtaoichlepfiliaaGreatDoorW.PrintLast
set_option maxRecDepth 100000 in
set_option maxHeartbeats 16000000 in
theorem carveWhole_run (AP : Option Addr) (cP : Nat) (l : List S) (AT : Option Addr) (cT : Nat) (Ts : List Tr) (AF : Option Addr) (cF : Nat) (Fs : List Tr) (w : World) (hP : Kd.C k71 w AP l.length l) (hcP : l.length ≤ cP) (hT : Kd.C kTr w AT Ts.length Ts) (hF : Kd.C kTr w AF Fs.length Fs) (hw : Wd l) (_hokT : ∀ t ∈ Ts, okT t) (hokF : ∀ t ∈ Fs, okT t) :
 Calls Tryz.prog 4 #[.agg #[.slice AP l.length cP, .slice AT Ts.length cT, .slice AF Fs.length cF]] w fun e w' => e = .returned (.bool true) ∧ Below w.heap.size w w' := by
 obtain ⟨W1, hW1⟩ : ∃ W1, W1 = w.alloc (.cells #[.slice AP l.length cP, .slice AT Ts.length cT, .slice AF Fs.length cF] 26) := ⟨_, rfl⟩
 have hB1 : Below w.heap.size w W1 := by rw [hW1]; exact below_alloc (Below.refl _ _) _
 have hbx : W1.heap[w.heap.size]? = some (.cells #[.slice AP l.length cP, .slice AT Ts.length cT, .slice AF Fs.length cF] 26 (0, 0)) := by rw [hW1]; exact blk_new _ _
 have HB1 := Aside0.mk hB1
 have c0 := (blk_cell hbx 0).trans (show _ = some (Value.slice AP l.length cP) from rfl)
 have c1 := (blk_cell hbx 1).trans (show _ = some (Value.slice AT Ts.length cT) from rfl)
 have c2 := (blk_cell hbx 2).trans (show _ = some (Value.slice AF Fs.length cF) from rfl)
 by_cases hbig : (decide (40 < l.length) || (decide (60 < Ts.length) || decide (60 < Fs.length))) = true
 ·have hla := fun W => large_call AP l.length cP AT Ts.length cT AF Fs.length cF W
  rw [hbig] at hla
  clear hbx hB1 hP hT hF hbig
  go_enter Tryz.func4, Tryz.ntmps4
  go_upto_region 1 with (fail)
  rw [← hW1]
  clear hW1
  have HG := Aside0.mk (Below.refl W1.heap.size W1)
  go_wp2_with (first
   | (go_at_call 7; (with_reducible refine (works_call _).mono ?_); rintro u_ w2 ⟨rfl, hb⟩; have HG := Aside0.mk (HG.out.trans (hb.mono HG.out.size)); have e0 := bcell HG.out c0; have e1 := bcell HG.out c1; have e2 := bcell HG.out c2; clear hb)
   | (go_at_call 8; (with_reducible refine (hla _).mono ?_); rintro u_ w3 ⟨rfl, hb⟩; have HG := Aside0.mk (HG.out.trans (hb.mono HG.out.size)); clear hb))
  go_ret
  exact ⟨rfl, HB1.out.trans (HG.out.mono HB1.out.size)⟩
 ·have hla := fun W => large_call AP l.length cP AT Ts.length cT AF Fs.length cF W
  have hsm : Ts.length ≤ 60 ∧ Fs.length ≤ 60 := by simp at hbig; omega
  rw [Bool.eq_false_iff.mpr hbig] at hla
  have hbo := fun W (hb : Below W1.heap.size W1 W) => both_call AP cP l AT cT Ts AF cF Fs W (Kd.C_below (Kd.C_below hP hB1) hb) hcP hw (Kd.C_below (Kd.C_below hT hB1) hb) (Kd.C_below (Kd.C_below hF hB1) hb) (by omega) (by omega) (fun t ht => ⟨(hokF t ht).1, (hokF t ht).2.1⟩)
  have HS := Aside0.mk hsm
  clear hbx hB1 hP hT hF hbig hsm
  go_enter Tryz.func4, Tryz.ntmps4
  go_upto_region 1 with (fail)
  rw [← hW1]
  clear hW1
  have HG := Aside0.mk (Below.refl W1.heap.size W1)
  go_upto_region 4 with (first
   | (go_at_call 7; (with_reducible refine (works_call _).mono ?_); rintro u_ w2 ⟨rfl, hb⟩; have HG := Aside0.mk (HG.out.trans (hb.mono HG.out.size)); have e0 := bcell HG.out c0; have e1 := bcell HG.out c1; have e2 := bcell HG.out c2; clear hb)
   | (go_at_call 8; (with_reducible refine (hla _).mono ?_); rintro u_ w3 ⟨rfl, hb⟩; have HG := Aside0.mk (HG.out.trans (hb.mono HG.out.size)); have e0 := bcell HG.out c0; have e1 := bcell HG.out c1; have e2 := bcell HG.out c2; clear hb)
   | (go_at_call 9; (with_reducible refine (hbo _ HG.out).mono ?_); rintro u_ w4 (⟨-, rfl, hb4⟩ | ⟨h04, mb, xb, M, X, rfl, hB4⟩)))
  ·go_wp2
   go_ret
   exact ⟨rfl, HB1.out.trans ((HG.out.trans (hb4.mono HG.out.size)).mono HB1.out.size)⟩
  ·have hmm : ∀ t w, (Instr.makeMap t none).run Tryz.prog w = .ok (.map (some w.heap.size)) (w.alloc (.map #[] 0)) := fun _ _ => rfl
   have hpt := parts_call hB4.m
   have HW0 := Aside0.mk HG.out
   clear hbo hla c0 c1 c2 e0 e1 e2 HG h04
   go_upto_region 11 with (go_at_call 20; (with_reducible refine hpt.mono ?_); rintro u_ w6 ⟨v5, hs, L, rfl, hPr, hL, hb6⟩; obtain ⟨A5, c5, hv5⟩ := (sl_row.mp hPr.row).any; subst hv5)
   have hms := mesh_mesh hB4.m
   have hOl : (bothO l Ts).length ≤ 60 := by
    have h1 := (both_law l Ts).2
    have h2 := foldT_len l Ts
    have h3 := HS.out.1
    rw [← h1, tris_length]
    omega
   have HST := Aside0.mk (And.intro hPr (And.intro hL (And.intro (hB4.below hb6) (And.intro hms.1 hOl))))
   have HLN := Aside0.mk (And.intro hPr.len (And.intro (parts_len hL) (fun p hp => part_len hL (p := p) hp)))
   have HWT : Aside0 (Wt w6 (w6.alloc (.map #[] 0)) w6.heap.size (fun _ => none) (.slice none 0 0) (allW L 0 0) ∧ Wh L (fun _ => none) 0 0) := ⟨⟨below_alloc (Below.refl _ _) _, MapF.made w6, by unfold allW; simp only [List.take_zero, List.flatten_nil, List.append_nil]; exact Kd.R_nil _ _ _ _ _, Nat.le_refl _⟩, wh_start L⟩
   have HB6 := Aside0.mk (And.intro hb6 hB4.b)
   clear hpt hPr hL hms hOl hb6 hB4 hmm
   go_wp2
   go_loopw [8, 9] (fun v8 v9 wr => ∃ (i : Nat) (gs : Tr → Option Value), v9 = .int .i64 i ∧ i ≤ L.length ∧ Aside0 (Wt w6 wr w6.heap.size gs v8 (allW L i 0) ∧ Wh L gs i 0)) (fun _ v9 _ => L.length - (intOf v9).toNat)
   case atStart => exact ⟨0, _, rfl, Nat.zero_le _, HWT⟩
   case round =>
    clear HWT
    obtain ⟨i, gs, rfl, hi, HW⟩ := hrel
    by_cases hlt : i < L.length
    ·have hlx : i < hs.length := by have := HLN.out.1; omega
     have d1 : decide (i < hs.length) = true := decide_eq_true hlx
     have d2 : ((i < hs.length) = True) := by simp; exact hlx
     have d3 : decide ((i : Int) < (hs.length : Int)) = true := by simp; omega
     have ii : IntKind.i64.wrap ((i : Int) + 1) = (i : Int) + 1 := wrapN (by omega) (by have := HST.out.2.2.2.2; have := HLN.out.2.1; omega)
     have hPr := HST.out.1
     obtain ⟨g, cap, hv, -⟩ := (sl_row.mp hPr.row).shape (by omega)
     injection hv with hv1 _ hv2
     subst hv1 hv2
     have hx := List.getElem?_eq_getElem hlx
     have hq := List.getElem?_eq_getElem hlt
     have hRi := hPr.at_ i _ _ hx hq
     have z0 := (sl_row.mp hPr.row).cell (sl_cell hx)
     have hne := HST.out.2.1.ne L[i] (List.getElem_mem hlt)
     have hp0 : 0 < L[i].length := List.length_pos_iff.mpr hne
     obtain ⟨g4, c4, hv4, -⟩ := (tr_row.mp hRi).shape hp0
     rw [hv4] at z0 hRi
     have CE : Aside0 (∀ W, Below w6.heap.size w6 W → W.cell? ⟨g, i, none⟩ = some (.slice (some ⟨g4, 0, none⟩) L[i].length c4)) := ⟨fun W hW => bcell hW (by simpa using z0)⟩
     have HPC : Aside0 (∀ k (hk : k < L[i].length), ∀ W, Below w6.heap.size w6 W → W.cell? ⟨g4, k * 3, none⟩ = some (.int .i64 L[i][k].1) ∧ W.cell? ⟨g4, k * 3 + 1, none⟩ = some (.int .i64 L[i][k].2.1) ∧ W.cell? ⟨g4, k * 3 + 2, none⟩ = some (.int .i64 L[i][k].2.2)) := ⟨fun k hk W hW => by
      have hOk : L[i][k]? = some L[i][k] := List.getElem?_eq_getElem hk
      have hc := fun q u (hu : (Msh.cT L[i][k])[q]? = some u) (hq : q < 3) => (tr_row.mp hRi).cell (j := k * 3 + q) ((at_cell hOk hq).trans hu)
      exact ⟨bcell hW (by have := hc 0 _ rfl (by omega); simpa using this), bcell hW (hc 1 _ rfl (by omega)), bcell hW (hc 2 _ rfl (by omega))⟩⟩
     have HPL : Aside0 (L[i].length ≤ 60) := ⟨Nat.le_trans (HLN.out.2.2 L[i] (List.getElem_mem hlt)) HST.out.2.2.2.2⟩
     have HPO := Aside0.mk (fun t (ht : t ∈ L[i]) => (HST.out.2.1.part L[i] (List.getElem_mem hlt) t ht).1)
     have HSTP : Aside0 (∀ gs k (hk : k < L[i].length), allW L i (k + 1) = allW L i k ++ [L[i][k]] ∧ (Wh L gs i k → Wh L (upd gs L[i][k] (some (.int .i64 i))) i (k + 1))) := ⟨fun gs k hk => ⟨allW_set hlt hk, fun h => wh_set HST.out.2.1 hlt hk h⟩⟩
     have HNX : Aside0 (allW L i L[i].length = allW L (i + 1) 0 ∧ ∀ gs, Wh L gs i L[i].length → Wh L gs (i + 1) 0) := ⟨allW_next hlt, fun gs h => wh_next hlt h⟩
     have HBT := Aside0.mk HST.out.2.2.1
     have q1 : decide ((L[i].length : Int) = 0) = false := by simp; omega
     have q2 : ((L[i].length : Int) == 0) = false := by simp; omega
     have q3 : (L[i].length == 0) = false := by simp; omega
     have q4 : decide (L[i].length = 0) = false := by simp; omega
     have HPV : Aside0 (∀ q, q + 1 = i → ∃ (g5 c6 n5 : Nat) (a b : Tr), 0 < n5 ∧ lt3 a b ∧ ∀ W, Below w6.heap.size w6 W → W.cell? ⟨g, i, none⟩ = some (.slice (some ⟨g4, 0, none⟩) L[i].length c4) ∧ W.cell? ⟨g, q, none⟩ = some (.slice (some ⟨g5, 0, none⟩) n5 c6) ∧ W.cell? ⟨g5, 0, none⟩ = some (.int .i64 a.1) ∧ W.cell? ⟨g5, 1, none⟩ = some (.int .i64 a.2.1) ∧ W.cell? ⟨g5, 2, none⟩ = some (.int .i64 a.2.2) ∧ W.cell? ⟨g4, 0, none⟩ = some (.int .i64 b.1) ∧ W.cell? ⟨g4, 1, none⟩ = some (.int .i64 b.2.1) ∧ W.cell? ⟨g4, 2, none⟩ = some (.int .i64 b.2.2)) := ⟨fun q hqi => by
      have hql : q < L.length := by omega
      have hqh : q < hs.length := by omega
      have hx5 := List.getElem?_eq_getElem hqh
      have hq5 := List.getElem?_eq_getElem hql
      have hR5 := hPr.at_ q _ _ hx5 hq5
      have z5 := (sl_row.mp hPr.row).cell (sl_cell hx5)
      have hp5 : 0 < L[q].length := List.length_pos_iff.mpr (HST.out.2.1.ne L[q] (List.getElem_mem hql))
      obtain ⟨g5, c6, hv5, -⟩ := (tr_row.mp hR5).shape hp5
      rw [hv5] at z5 hR5
      have hc5 := fun r u (hu : (Msh.cT L[q][0])[r]? = some u) (hr : r < 3) => (tr_row.mp hR5).cell (j := 0 * 3 + r) ((at_cell (List.getElem?_eq_getElem hp5) hr).trans hu)
      have hc4 := fun r u (hu : (Msh.cT L[i][0])[r]? = some u) (hr : r < 3) => (tr_row.mp hRi).cell (j := 0 * 3 + r) ((at_cell (List.getElem?_eq_getElem hp0) hr).trans hu)
      have hlt3 : lt3 L[q][0] L[i][0] := by
       have := List.pairwise_iff_getElem.mp HST.out.2.1.heads q i (by simpa using hql) (by simpa using hlt) (by omega)
       simpa [List.head?_eq_getElem?, List.getElem?_eq_getElem hp5, List.getElem?_eq_getElem hp0] using this
      exact ⟨g5, c6, L[q].length, L[q][0], L[i][0], hp5, hlt3, fun W hW => ⟨CE.out W hW, bcell hW (by simpa using z5), bcell hW (by simpa using hc5 0 _ rfl (by omega)), bcell hW (by simpa using hc5 1 _ rfl (by omega)), bcell hW (by simpa using hc5 2 _ rfl (by omega)), bcell hW (by simpa using hc4 0 _ rfl (by omega)), bcell hW (by simpa using hc4 1 _ rfl (by omega)), bcell hW (by simpa using hc4 2 _ rfl (by omega))⟩⟩⟩
     have k9 := CE.out wr HW.out.1.b
     have hp0' := hp0
     generalize L[i] = p at *
     clear hx hq hRi z0 hne hv4 hPr
     rcases Nat.eq_zero_or_pos i with h0 | h0
     ·have d5 : decide ((0 : Int) < (i : Int)) = false := by simp; omega
      have d6 : decide (0 < i) = false := by simp; omega
      clear h0
      go_upto_region 14 with (fail)
      go_quiet (fail)
      have HN := Aside0.mk (And.intro (HW.out.1.below (pw_below_drewN (Below.refl _ _) nq)) HW.out.2)
      generalize wr.drewN nq = W7 at *
      go_wp2
      go_loopw [10, 8] (fun v10 v8 wr => ∃ (k : Nat) (gs : Tr → Option Value), v10 = .int .i64 k ∧ k ≤ p.length ∧ Aside0 (Wt w6 wr w6.heap.size gs v8 (allW L i k) ∧ Wh L gs i k)) (fun v10 _ _ => p.length - (intOf v10).toNat)
      case atStart => exact ⟨0, gs, rfl, Nat.zero_le _, HN⟩
      case round =>
       clear HN
       obtain ⟨k, gs2, rfl, hk, HV⟩ := hrel
       have y9 := (CE.out wr HV.out.1.b)
       by_cases hlk : k < p.length
       ·have f1 : decide ((k : Int) < (p.length : Int)) = true := by simp; omega
        have f2 : decide (k < p.length) = true := decide_eq_true hlk
        have f3 : ((k < p.length) = True) := by simp; omega
        have ik : IntKind.i64.wrap ((k : Int) + 1) = (k : Int) + 1 := wrapN (by omega) (by have := HPL.out; omega)
        have CT := Aside0.mk (HPC.out k hlk)
        have HST2 := Aside0.mk (HSTP.out gs2 k hlk)
        have hok := mesh_rng HBT.out.m (HPO.out p[k] (List.getElem_mem hlk))
        generalize p[k] = t at *
        have z := CT.out wr HV.out.1.b
        have z0 := z.1
        have z1 := z.2.1
        have z2 := z.2.2
        obtain ⟨ob, hrun, hmf⟩ := HV.out.1.map.update kT Tryz.underlying50 (x := t) hok (.int .i64 i)
        have HV2 := Aside0.mk (HV.out.1.set hmf)
        unfold encT at hrun
        have e := CT.out _ HV2.out.b
        have e0 := e.1
        have e1 := e.2.1
        have e2 := e.2.2
        have e9 := CE.out _ HV2.out.b
        have hrow := HV2.out.row
        have HBS := Aside0.mk HV2.out.b.size
        have HZ : Aside0 (((allW L i k).length + 1) * 24 ≤ 140737488355328) := ⟨by
         have h1 := (parts_all HST.out.2.2.2.1 HST.out.2.1).2.2.2
         have h2 := allW_le L i k
         have h3 := HST.out.2.2.2.2
         omega⟩
        clear z e hmf hok
        go_wp2_with (refine wp_add1 flatT rfl (.tmp 94) (.tmp 102) 23 53 (.agg #[.int .i64 0, .int .i64 0, .int .i64 0]) 24 rfl Tryz.underlying23 infoTr rfl (by decide) (by decide) t rfl (by simp [Act.eval]) rfl hrow HBS.out HZ.out ?_; intro v8' w8 hr8 hg8)
        have HN2 : Aside0 (Wt w6 w8 w6.heap.size (upd gs2 t (some (.int .i64 i))) v8' (allW L i (k + 1)) ∧ Wh L (upd gs2 t (some (.int .i64 i))) i (k + 1)) := ⟨by
         have := HV2.out.grow hr8 hg8
         rw [HST2.out.1]
         exact this, HST2.out.2 HV.out.2⟩
        go_roundw
        case rel => exact ⟨k + 1, _, by go_num, by omega, HN2⟩
        case measure => simp [intOf]; omega
       ·have f1 : decide ((k : Int) < (p.length : Int)) = false := by simp; omega
        have f2 : decide (k < p.length) = false := decide_eq_false hlk
        have f3 : ((k < p.length) = False) := by simp; omega
        have hkp : k = p.length := by omega
        have HN2 : Aside0 (Wt w6 wr w6.heap.size gs2 u8 (allW L (i + 1) 0) ∧ Wh L gs2 (i + 1) 0) := ⟨by rw [← HNX.out.1, ← hkp]; exact HV.out.1, HNX.out.2 gs2 (by rw [← hkp]; exact HV.out.2)⟩
        clear hkp
        go_wp2
        go_roundw
        case rel => exact ⟨i + 1, gs2, by go_num, by omega, HN2⟩
        case measure => simp [intOf]; omega
     ·obtain ⟨q, hq⟩ : ∃ q, q + 1 = i := ⟨i - 1, by omega⟩
      obtain ⟨g5, c6, n5, a, b, hn5, hab, hC8⟩ := HPV.out q hq
      have HC8 := Aside0.mk hC8
      have d5 : decide ((0 : Int) < (i : Int)) = true := by simp; omega
      have d6 : decide (0 < i) = true := by simp; omega
      have i4 : IntKind.i64.wrap ((i : Int) - 1) = (q : Int) := by rw [wrapN (by omega) (by have := HLN.out.2.1; have := HST.out.2.2.2.2; omega)]; omega
      have e3 : decide ((q : Int) < (hs.length : Int)) = true := by simp; omega
      have e4 : decide (q < hs.length) = true := decide_eq_true (by omega)
      have e5 : ((q < hs.length) = True) := by simp; omega
      have e6 : decide (0 < n5) = true := decide_eq_true hn5
      have e7 : decide (0 < p.length) = true := decide_eq_true hp0
      have hless := fun W => rless_call a b W
      rw [decide_eq_true hab] at hless
      unfold encT at hless
      have hbw := HW.out.1.b
      have hb0 := Below.refl wr.heap.size wr
      have HQI := Aside0.mk hq
      clear hC8 hab hq h0
      go_upto_region 14 with (fail)
      go_region_held3 (fun W => W.cell? ⟨g, i, none⟩ = some (.slice (some ⟨g4, 0, none⟩) p.length c4) ∧ W.cell? ⟨g, q, none⟩ = some (.slice (some ⟨g5, 0, none⟩) n5 c6) ∧ W.cell? ⟨g5, 0, none⟩ = some (.int .i64 a.1) ∧ W.cell? ⟨g5, 1, none⟩ = some (.int .i64 a.2.1) ∧ W.cell? ⟨g5, 2, none⟩ = some (.int .i64 a.2.2) ∧ W.cell? ⟨g4, 0, none⟩ = some (.int .i64 b.1) ∧ W.cell? ⟨g4, 1, none⟩ = some (.int .i64 b.2.1) ∧ W.cell? ⟨g4, 2, none⟩ = some (.int .i64 b.2.2))
       (first | exact HS9.out | (with_reducible refine HC8.out _ ?_; (repeat (first | assumption | exact Below.refl _ _ | apply below_drew1 | apply below_alloc | apply pw_below_drewN))))
       ((go_at_call 21; (with_reducible refine (hless _).mono ?_); rintro u_ w7 ⟨rfl, hb7⟩; have hB8 := below_step (w := wr) (by (with_reducible (repeat (first | exact hb0 | apply below_drew1 | apply below_alloc | apply pw_below_drewN)))) hb7; clear hb7; have HS9 := Aside0.mk (HC8.out _ (hbw.trans (hB8.mono hbw.size)))))
      all_goals
       have HN := Aside0.mk (And.intro (HW.out.1.below hB8) HW.out.2)
       clear HW k9 hbw hb0 hB8 HS9
       obtain ⟨W7, hW7⟩ : ∃ W7 : World, W7 = w7 := ⟨w7, rfl⟩
       subst hW7
       go_wp2
       go_loopw [10, 8] (fun v10 v8 wr => ∃ (k : Nat) (gs : Tr → Option Value), v10 = .int .i64 k ∧ k ≤ p.length ∧ Aside0 (Wt w6 wr w6.heap.size gs v8 (allW L i k) ∧ Wh L gs i k)) (fun v10 _ _ => p.length - (intOf v10).toNat)
       case atStart => exact ⟨0, gs, rfl, Nat.zero_le _, HN⟩
       case round =>
        clear HN
        obtain ⟨k, gs2, rfl, hk, HV⟩ := hrel
        have y9 := (CE.out wr HV.out.1.b)
        by_cases hlk : k < p.length
        ·have f1 : decide ((k : Int) < (p.length : Int)) = true := by simp; omega
         have f2 : decide (k < p.length) = true := decide_eq_true hlk
         have f3 : ((k < p.length) = True) := by simp; omega
         have ik : IntKind.i64.wrap ((k : Int) + 1) = (k : Int) + 1 := wrapN (by omega) (by have := HPL.out; omega)
         have CT := Aside0.mk (HPC.out k hlk)
         have HST2 := Aside0.mk (HSTP.out gs2 k hlk)
         have hok := mesh_rng HBT.out.m (HPO.out p[k] (List.getElem_mem hlk))
         generalize p[k] = t at *
         have z := CT.out wr HV.out.1.b
         have z0 := z.1
         have z1 := z.2.1
         have z2 := z.2.2
         obtain ⟨ob, hrun, hmf⟩ := HV.out.1.map.update kT Tryz.underlying50 (x := t) hok (.int .i64 i)
         have HV2 := Aside0.mk (HV.out.1.set hmf)
         unfold encT at hrun
         have e := CT.out _ HV2.out.b
         have e0 := e.1
         have e1 := e.2.1
         have e2 := e.2.2
         have e9 := CE.out _ HV2.out.b
         have hrow := HV2.out.row
         have HBS := Aside0.mk HV2.out.b.size
         have HZ : Aside0 (((allW L i k).length + 1) * 24 ≤ 140737488355328) := ⟨by
          have h1 := (parts_all HST.out.2.2.2.1 HST.out.2.1).2.2.2
          have h2 := allW_le L i k
          have h3 := HST.out.2.2.2.2
          omega⟩
         clear z e hmf hok
         go_wp2_with (refine wp_add1 flatT rfl (.tmp 94) (.tmp 102) 23 53 (.agg #[.int .i64 0, .int .i64 0, .int .i64 0]) 24 rfl Tryz.underlying23 infoTr rfl (by decide) (by decide) t rfl (by simp [Act.eval]) rfl hrow HBS.out HZ.out ?_; intro v8' w8 hr8 hg8)
         have HN2 : Aside0 (Wt w6 w8 w6.heap.size (upd gs2 t (some (.int .i64 i))) v8' (allW L i (k + 1)) ∧ Wh L (upd gs2 t (some (.int .i64 i))) i (k + 1)) := ⟨by
          have := HV2.out.grow hr8 hg8
          rw [HST2.out.1]
          exact this, HST2.out.2 HV.out.2⟩
         go_roundw
         case rel => exact ⟨k + 1, _, by go_num, by omega, HN2⟩
         case measure => simp [intOf]; omega
        ·have f1 : decide ((k : Int) < (p.length : Int)) = false := by simp; omega
         have f2 : decide (k < p.length) = false := decide_eq_false hlk
         have f3 : ((k < p.length) = False) := by simp; omega
         have hkp : k = p.length := by omega
         have HN2 : Aside0 (Wt w6 wr w6.heap.size gs2 u8 (allW L (i + 1) 0) ∧ Wh L gs2 (i + 1) 0) := ⟨by rw [← HNX.out.1, ← hkp]; exact HV.out.1, HNX.out.2 gs2 (by rw [← hkp]; exact HV.out.2)⟩
         clear hkp
         go_wp2
         go_roundw
         case rel => exact ⟨i + 1, gs2, by go_num, by omega, HN2⟩
         case measure => simp [intOf]; omega
    ·have e : i = L.length := by omega
     subst e
     have hw8 := HW.out.1.row
     rw [allW_end] at hw8
     have hpa := parts_all HST.out.2.2.2.1 HST.out.2.1
     obtain ⟨A8, c8, rfl⟩ := Kd.R_slice hw8
     have hso := fun W (hW : Below wr.heap.size wr W) => rsorted_call A8 c8 L.flatten W (Kd.C_below (Kd.R_reads' hw8).2.2 hW) (by have := HST.out.2.2.2.2; have := hpa.2.2.2; omega)
     rw [hpa.2.2.1] at hso
     rw [hpa.2.2.2] at hso ⊢
     have htr := tris_call (HST.out.2.2.1.below HW.out.1.b).m
     have d1 : decide (L.length < hs.length) = false := by have := HLN.out.1; simp; omega
     have d2 : ((L.length < hs.length) = False) := by have := HLN.out.1; simp; omega
     have d3 : decide ((L.length : Int) < (hs.length : Int)) = false := by have := HLN.out.1; simp; omega
     have hsa : ∀ W A c A2 c2, Kd.C kTr W A (bothO l Ts).length (bothO l Ts) → Kd.C kTr W A2 (bothO l Ts).length (bothO l Ts) → Calls Tryz.prog 15 #[.slice A (bothO l Ts).length c, .slice A2 (bothO l Ts).length c2] W fun e w' => e = .returned (.bool true) ∧ Below W.heap.size W w' := fun W A c A2 c2 h1 h2 => (rsame_call A c _ A2 c2 _ W h1 h2 (by have := HST.out.2.2.2.2; omega)).mono fun e w' ⟨he, hb⟩ => ⟨by rw [he, decide_eq_true rfl], hb⟩
     have HPA := Aside0.mk hpa
     clear hpa hw8 hi hlt
     go_upto_region 24 with (first
      | (go_at_call 16; (with_reducible refine htr.mono ?_); rintro u_ w7 ⟨v7, rfl, hR7, hb7⟩; obtain ⟨A7, c7, hv7⟩ := (tr_row.mp hR7).any; subst hv7)
      | (go_at_call 17; (with_reducible refine (hso _ hb7).mono ?_); rintro u_ w8 ⟨v8, rfl, hR8, hb8⟩; obtain ⟨A9, c9, hv8⟩ := (tr_row.mp hR8).any; subst hv8; have q8 := (Kd.R_reads' hR8).2.2; have q7 := Kd.C_below (Kd.R_reads' hR7).2.2 hb8)
      | (go_at_call 15; (with_reducible refine (hsa _ _ _ _ _ q8 q7).mono ?_); rintro u_ w9 ⟨rfl, hb9⟩))
     have hb79 : Below wr.heap.size wr w9 := (hb7.trans (hb8.mono hb7.size)).trans (hb9.mono (Nat.le_trans hb7.size hb8.size))
     have HW9 := Aside0.mk (And.intro (HW.out.1.below hb79) HW.out.2)
     have hC7 : Kd.C kTr w9 A7 (bothO l Ts).length (bothO l Ts) := Kd.C_below (Kd.C_below (Kd.R_reads' hR7).2.2 hb8) hb9
     have HB9 := Aside0.mk (HST.out.2.2.1.below HW9.out.1.b)
     have HPOS := Aside0.mk (both_pos l Ts)
     clear htr hso hR7 hR8 hb7 hb8 hb9 d1 d2 d3 HW hb79
     go_wp2
     go_loopw [12] (fun v12 wr => ∃ (i : Nat), v12 = .int .i64 i ∧ i ≤ (bothO l Ts).length ∧ Below w9.heap.size w9 wr) (fun v12 _ => (bothO l Ts).length - (intOf v12).toNat)
     case atStart => exact ⟨0, rfl, Nat.zero_le _, Below.refl _ _⟩
     case round =>
      obtain ⟨i, rfl, hi, hB⟩ := hrel
      by_cases hlt : i < (bothO l Ts).length
      ·have hO := List.getElem_mem hlt
       have hok := mesh_rng HB9.out.m hO
       obtain ⟨ad, rfl, -⟩ := at_tr hC7 hlt hlt
       have CT : Aside0 (∀ W, Below w9.heap.size w9 W → W.cell? (ad.add (i * 3)) = some (.int .i64 (bothO l Ts)[i].1) ∧ W.cell? ⟨(ad.add (i * 3)).block, (ad.add (i * 3)).off + 1, none⟩ = some (.int .i64 (bothO l Ts)[i].2.1) ∧ W.cell? ⟨(ad.add (i * 3)).block, (ad.add (i * 3)).off + 2, none⟩ = some (.int .i64 (bothO l Ts)[i].2.2)) := ⟨fun W hW => by
        obtain ⟨ad', e, q⟩ := at_tr (Kd.C_below hC7 hW) hlt hlt
        injection e with e
        subst e
        exact q⟩
       have HNR : Aside0 (∀ a b c, (a, b) ∈ eds (bothO l Ts)[i] → behind (bothO l Ts) b a = some c → (fixO (bothF l Fs) a b).isSome = false → okT (own (b, a, c)) ∧ ∃ q : Nat, gs (bothO l Ts)[i] = some (.int .i64 q) ∧ gs (own (b, a, c)) = some (.int .i64 q)) := ⟨fun a b c h1 h2 h3 => by
        obtain ⟨n1, n2⟩ := near_of (mesh_mesh HB9.out.m).1 (mesh_mesh HB9.out.m).2 hO h1 h2 h3
        exact ⟨mesh_rng HB9.out.m n1, wh_near HST.out.2.1 HW9.out.2 hO n1 n2⟩⟩
       have d1 : decide ((i : Int) < ((bothO l Ts).length : Int)) = true := by simp; omega
       have d2 : decide (i < (bothO l Ts).length) = true := decide_eq_true hlt
       have d3 : ((i < (bothO l Ts).length) = True) := by simp; exact hlt
       have ii : IntKind.i64.wrap ((i : Int) + 1) = (i : Int) + 1 := wrapN (by omega) (by have := HST.out.2.2.2.2; omega)
       have HOK := Aside0.mk hok
       clear hO hok
       generalize (bothO l Ts)[i] = t at *
       obtain ⟨x, y, z⟩ := t
       simp only at CT
       go_wp2
       go_loopw [13] (fun v13 wr => ∃ k : Nat, k ≤ 3 ∧ v13 = .int .i64 k ∧ Below w9.heap.size w9 wr) (fun v13 _ => 3 - (intOf v13).toNat)
       case atStart => exact ⟨0, by omega, rfl, hB⟩
       case round =>
        clear hB
        obtain ⟨k, hk, rfl, hbw⟩ := hrel
        rcases (show k = 0 ∨ k = 1 ∨ k = 2 ∨ k = 3 by omega) with rfl | rfl | rfl | rfl
        ·have j1 : IntKind.i64.wrap 1 = 1 := by decide
         have j2 : IntKind.i64.wrap 2 = 2 := by decide
         have j3 : IntKind.i64.wrap 3 = 3 := by decide
         obtain ⟨z0, z1, z2⟩ := CT.out _ hbw
         have hap := apex_call (HB9.out.m.below hbw) HOK.out.2.1 HOK.out.1
         have hfi := fixed_call (HB9.out.m.below hbw) HOK.out.1 HOK.out.2.1
         have HNQ := Aside0.mk (fun c => HNR.out x y c (by simp [eds]))
         cases hsb : behind (bothO l Ts) y x with
         | none =>
          rw [hsb] at hap
          simp only [Option.getD_none, Option.isSome_none] at hap
          clear hsb
          generalize (fixO (bothF l Fs) x y).getD 0 = g3 at *
          generalize (fixO (bothF l Fs) x y).isSome = g4 at *
          go_upto_region 34 with (first
           | (go_at_call 22; (with_reducible refine hap.mono ?_); rintro u_ w5 ⟨rfl, rfl⟩)
           | (go_at_call 23; (with_reducible refine hfi.mono ?_); rintro u_ w6 ⟨rfl, hg6⟩))
          have HG6 := Aside0.mk (hbw.trans (hg6.below.mono hbw.size))
          clear hg6 hbw
          go_quiet (fail)
          go_wp2
          go_roundw
          case rel => exact ⟨1, by omega, rfl, pw_below_drewN HG6.out nq⟩
          case measure => simp [intOf]
         | some c =>
          rw [hsb] at hap
          simp only [Option.getD_some, Option.isSome_some] at hap
          have HN3 := Aside0.mk (HNQ.out c hsb)
          clear hsb
          generalize (fixO (bothF l Fs) x y).getD 0 = g3 at *
          cases hg4 : (fixO (bothF l Fs) x y).isSome with
          | true =>
           rw [hg4] at hfi
           clear hg4
           go_upto_region 34 with (first
            | (go_at_call 22; (with_reducible refine hap.mono ?_); rintro u_ w5 ⟨rfl, rfl⟩)
            | (go_at_call 23; (with_reducible refine hfi.mono ?_); rintro u_ w6 ⟨rfl, hg6⟩))
           have HG6 := Aside0.mk (hbw.trans (hg6.below.mono hbw.size))
           clear hg6 hbw
           go_quiet (fail)
           go_wp2
           go_roundw
           case rel => exact ⟨1, by omega, rfl, pw_below_drewN HG6.out nq⟩
           case measure => simp [intOf]
          | false =>
           rw [hg4] at hfi
           obtain ⟨n1, q, n2, n3⟩ := HN3.out hg4
           clear hg4
           obtain ⟨ek, hek⟩ : ∃ ek, ek = encT (own (y, x, c)) := ⟨_, rfl⟩
           have hown : ∀ W, Calls Tryz.prog 24 #[.agg #[.int .i64 y, .int .i64 x, .int .i64 c]] W fun e w' => e = .returned ek ∧ Gr W w' := fun W => by rw [hek]; exact rown_call (y, x, c) W
           have HC8 : Aside0 (∀ W, Below w9.heap.size w9 W → W.cell? (ad.add (i * 3)) = some (.int .i64 x) ∧ W.cell? ⟨(ad.add (i * 3)).block, (ad.add (i * 3)).off + 1, none⟩ = some (.int .i64 y) ∧ W.cell? ⟨(ad.add (i * 3)).block, (ad.add (i * 3)).off + 2, none⟩ = some (.int .i64 z) ∧ (Instr.lookup 50 (.map (some w6.heap.size)) ek false).run Tryz.prog W = .ok (.int .i64 q) W ∧ (Instr.lookup 50 (.map (some w6.heap.size)) (.agg #[.int .i64 x, .int .i64 y, .int .i64 z]) false).run Tryz.prog W = .ok (.int .i64 q) W) := ⟨fun W hW => by
            obtain ⟨y0, y1, y2⟩ := CT.out _ hW
            have m1 := (HW9.out.1.map.below hW).lookup (w := W) kT Tryz.underlying50 (zeroI W) n1 false
            have m2 := (HW9.out.1.map.below hW).lookup (w := W) kT Tryz.underlying50 (zeroI W) HOK.out false
            rw [n3] at m1
            rw [n2] at m2
            exact ⟨y0, y1, y2, by rw [hek]; exact m1, m2⟩⟩
           clear hek n1 n2 n3
           go_upto_region 34 with (first
            | (go_at_call 22; (with_reducible refine hap.mono ?_); rintro u_ w5 ⟨rfl, rfl⟩)
            | (go_at_call 23; (with_reducible refine hfi.mono ?_); rintro u_ w7 ⟨rfl, hg7⟩))
           replace hbw := hbw.trans (hg7.below.mono hbw.size)
           clear hg7 hap hfi z0 z1 z2
           have k0 := fun n : Bw w7 => (HC8.out n.W (hbw.trans (n.h.mono hbw.size))).1
           have k1 := fun n : Bw w7 => (HC8.out n.W (hbw.trans (n.h.mono hbw.size))).2.1
           have k2 := fun n : Bw w7 => (HC8.out n.W (hbw.trans (n.h.mono hbw.size))).2.2.1
           have k3 := fun n : Bw w7 => (HC8.out n.W (hbw.trans (n.h.mono hbw.size))).2.2.2.1
           have k4 := fun n : Bw w7 => (HC8.out n.W (hbw.trans (n.h.mono hbw.size))).2.2.2.2
           have hown2 : ∀ W, Below w7.heap.size w7 W → Calls Tryz.prog 24 #[.agg #[.int .i64 y, .int .i64 x, .int .i64 c]] W fun e w' => e = .returned ek ∧ Below W.heap.size W w' := fun W _ => (hown W).mono fun e w' ⟨he, hg⟩ => ⟨he, hg.below⟩
           clear HC8 hown
           (refine wp_region_bw (by kernel_rfl) (by kernel_rfl) ?_
            repeat (first | go_big_quiet_step (exact Bw.call _ hown2) | quiet_step (exact Bw.call _ hown2))
            refine wpQuiet_nil ?_
            rintro _ ⟨nq, rfl⟩)
           go_wp2
           go_roundw
           case rel => exact ⟨1, by omega, rfl, hbw.trans (nq.h.mono hbw.size)⟩
           case measure => simp [intOf]
        ·have j1 : IntKind.i64.wrap 1 = 1 := by decide
         have j2 : IntKind.i64.wrap 2 = 2 := by decide
         have j3 : IntKind.i64.wrap 3 = 3 := by decide
         obtain ⟨z0, z1, z2⟩ := CT.out _ hbw
         have hap := apex_call (HB9.out.m.below hbw) HOK.out.2.2 HOK.out.2.1
         have hfi := fixed_call (HB9.out.m.below hbw) HOK.out.2.1 HOK.out.2.2
         have HNQ := Aside0.mk (fun c => HNR.out y z c (by simp [eds]))
         cases hsb : behind (bothO l Ts) z y with
         | none =>
          rw [hsb] at hap
          simp only [Option.getD_none, Option.isSome_none] at hap
          clear hsb
          generalize (fixO (bothF l Fs) y z).getD 0 = g3 at *
          generalize (fixO (bothF l Fs) y z).isSome = g4 at *
          go_upto_region 34 with (first
           | (go_at_call 22; (with_reducible refine hap.mono ?_); rintro u_ w5 ⟨rfl, rfl⟩)
           | (go_at_call 23; (with_reducible refine hfi.mono ?_); rintro u_ w6 ⟨rfl, hg6⟩))
          have HG6 := Aside0.mk (hbw.trans (hg6.below.mono hbw.size))
          clear hg6 hbw
          go_quiet (fail)
          go_wp2
          go_roundw
          case rel => exact ⟨2, by omega, rfl, pw_below_drewN HG6.out nq⟩
          case measure => simp [intOf]
         | some c =>
          rw [hsb] at hap
          simp only [Option.getD_some, Option.isSome_some] at hap
          have HN3 := Aside0.mk (HNQ.out c hsb)
          clear hsb
          generalize (fixO (bothF l Fs) y z).getD 0 = g3 at *
          cases hg4 : (fixO (bothF l Fs) y z).isSome with
          | true =>
           rw [hg4] at hfi
           clear hg4
           go_upto_region 34 with (first
            | (go_at_call 22; (with_reducible refine hap.mono ?_); rintro u_ w5 ⟨rfl, rfl⟩)
            | (go_at_call 23; (with_reducible refine hfi.mono ?_); rintro u_ w6 ⟨rfl, hg6⟩))
           have HG6 := Aside0.mk (hbw.trans (hg6.below.mono hbw.size))
           clear hg6 hbw
           go_quiet (fail)
           go_wp2
           go_roundw
           case rel => exact ⟨2, by omega, rfl, pw_below_drewN HG6.out nq⟩
           case measure => simp [intOf]
          | false =>
           rw [hg4] at hfi
           obtain ⟨n1, q, n2, n3⟩ := HN3.out hg4
           clear hg4
           obtain ⟨ek, hek⟩ : ∃ ek, ek = encT (own (z, y, c)) := ⟨_, rfl⟩
           have hown : ∀ W, Calls Tryz.prog 24 #[.agg #[.int .i64 z, .int .i64 y, .int .i64 c]] W fun e w' => e = .returned ek ∧ Gr W w' := fun W => by rw [hek]; exact rown_call (z, y, c) W
           have HC8 : Aside0 (∀ W, Below w9.heap.size w9 W → W.cell? (ad.add (i * 3)) = some (.int .i64 x) ∧ W.cell? ⟨(ad.add (i * 3)).block, (ad.add (i * 3)).off + 1, none⟩ = some (.int .i64 y) ∧ W.cell? ⟨(ad.add (i * 3)).block, (ad.add (i * 3)).off + 2, none⟩ = some (.int .i64 z) ∧ (Instr.lookup 50 (.map (some w6.heap.size)) ek false).run Tryz.prog W = .ok (.int .i64 q) W ∧ (Instr.lookup 50 (.map (some w6.heap.size)) (.agg #[.int .i64 x, .int .i64 y, .int .i64 z]) false).run Tryz.prog W = .ok (.int .i64 q) W) := ⟨fun W hW => by
            obtain ⟨y0, y1, y2⟩ := CT.out _ hW
            have m1 := (HW9.out.1.map.below hW).lookup (w := W) kT Tryz.underlying50 (zeroI W) n1 false
            have m2 := (HW9.out.1.map.below hW).lookup (w := W) kT Tryz.underlying50 (zeroI W) HOK.out false
            rw [n3] at m1
            rw [n2] at m2
            exact ⟨y0, y1, y2, by rw [hek]; exact m1, m2⟩⟩
           clear hek n1 n2 n3
           go_upto_region 34 with (first
            | (go_at_call 22; (with_reducible refine hap.mono ?_); rintro u_ w5 ⟨rfl, rfl⟩)
            | (go_at_call 23; (with_reducible refine hfi.mono ?_); rintro u_ w7 ⟨rfl, hg7⟩))
           replace hbw := hbw.trans (hg7.below.mono hbw.size)
           clear hg7 hap hfi z0 z1 z2
           have k0 := fun n : Bw w7 => (HC8.out n.W (hbw.trans (n.h.mono hbw.size))).1
           have k1 := fun n : Bw w7 => (HC8.out n.W (hbw.trans (n.h.mono hbw.size))).2.1
           have k2 := fun n : Bw w7 => (HC8.out n.W (hbw.trans (n.h.mono hbw.size))).2.2.1
           have k3 := fun n : Bw w7 => (HC8.out n.W (hbw.trans (n.h.mono hbw.size))).2.2.2.1
           have k4 := fun n : Bw w7 => (HC8.out n.W (hbw.trans (n.h.mono hbw.size))).2.2.2.2
           have hown2 : ∀ W, Below w7.heap.size w7 W → Calls Tryz.prog 24 #[.agg #[.int .i64 z, .int .i64 y, .int .i64 c]] W fun e w' => e = .returned ek ∧ Below W.heap.size W w' := fun W _ => (hown W).mono fun e w' ⟨he, hg⟩ => ⟨he, hg.below⟩
           clear HC8 hown
           (refine wp_region_bw (by kernel_rfl) (by kernel_rfl) ?_
            repeat (first | go_big_quiet_step (exact Bw.call _ hown2) | quiet_step (exact Bw.call _ hown2))
            refine wpQuiet_nil ?_
            rintro _ ⟨nq, rfl⟩)
           go_wp2
           go_roundw
           case rel => exact ⟨2, by omega, rfl, hbw.trans (nq.h.mono hbw.size)⟩
           case measure => simp [intOf]
        ·have j1 : IntKind.i64.wrap 1 = 1 := by decide
         have j2 : IntKind.i64.wrap 2 = 2 := by decide
         have j3 : IntKind.i64.wrap 3 = 3 := by decide
         obtain ⟨z0, z1, z2⟩ := CT.out _ hbw
         have hap := apex_call (HB9.out.m.below hbw) HOK.out.1 HOK.out.2.2
         have hfi := fixed_call (HB9.out.m.below hbw) HOK.out.2.2 HOK.out.1
         have HNQ := Aside0.mk (fun c => HNR.out z x c (by simp [eds]))
         cases hsb : behind (bothO l Ts) x z with
         | none =>
          rw [hsb] at hap
          simp only [Option.getD_none, Option.isSome_none] at hap
          clear hsb
          generalize (fixO (bothF l Fs) z x).getD 0 = g3 at *
          generalize (fixO (bothF l Fs) z x).isSome = g4 at *
          go_upto_region 34 with (first
           | (go_at_call 22; (with_reducible refine hap.mono ?_); rintro u_ w5 ⟨rfl, rfl⟩)
           | (go_at_call 23; (with_reducible refine hfi.mono ?_); rintro u_ w6 ⟨rfl, hg6⟩))
          have HG6 := Aside0.mk (hbw.trans (hg6.below.mono hbw.size))
          clear hg6 hbw
          go_quiet (fail)
          go_wp2
          go_roundw
          case rel => exact ⟨3, by omega, rfl, pw_below_drewN HG6.out nq⟩
          case measure => simp [intOf]
         | some c =>
          rw [hsb] at hap
          simp only [Option.getD_some, Option.isSome_some] at hap
          have HN3 := Aside0.mk (HNQ.out c hsb)
          clear hsb
          generalize (fixO (bothF l Fs) z x).getD 0 = g3 at *
          cases hg4 : (fixO (bothF l Fs) z x).isSome with
          | true =>
           rw [hg4] at hfi
           clear hg4
           go_upto_region 34 with (first
            | (go_at_call 22; (with_reducible refine hap.mono ?_); rintro u_ w5 ⟨rfl, rfl⟩)
            | (go_at_call 23; (with_reducible refine hfi.mono ?_); rintro u_ w6 ⟨rfl, hg6⟩))
           have HG6 := Aside0.mk (hbw.trans (hg6.below.mono hbw.size))
           clear hg6 hbw
           go_quiet (fail)
           go_wp2
           go_roundw
           case rel => exact ⟨3, by omega, rfl, pw_below_drewN HG6.out nq⟩
           case measure => simp [intOf]
          | false =>
           rw [hg4] at hfi
           obtain ⟨n1, q, n2, n3⟩ := HN3.out hg4
           clear hg4
           obtain ⟨ek, hek⟩ : ∃ ek, ek = encT (own (x, z, c)) := ⟨_, rfl⟩
           have hown : ∀ W, Calls Tryz.prog 24 #[.agg #[.int .i64 x, .int .i64 z, .int .i64 c]] W fun e w' => e = .returned ek ∧ Gr W w' := fun W => by rw [hek]; exact rown_call (x, z, c) W
           have HC8 : Aside0 (∀ W, Below w9.heap.size w9 W → W.cell? (ad.add (i * 3)) = some (.int .i64 x) ∧ W.cell? ⟨(ad.add (i * 3)).block, (ad.add (i * 3)).off + 1, none⟩ = some (.int .i64 y) ∧ W.cell? ⟨(ad.add (i * 3)).block, (ad.add (i * 3)).off + 2, none⟩ = some (.int .i64 z) ∧ (Instr.lookup 50 (.map (some w6.heap.size)) ek false).run Tryz.prog W = .ok (.int .i64 q) W ∧ (Instr.lookup 50 (.map (some w6.heap.size)) (.agg #[.int .i64 x, .int .i64 y, .int .i64 z]) false).run Tryz.prog W = .ok (.int .i64 q) W) := ⟨fun W hW => by
            obtain ⟨y0, y1, y2⟩ := CT.out _ hW
            have m1 := (HW9.out.1.map.below hW).lookup (w := W) kT Tryz.underlying50 (zeroI W) n1 false
            have m2 := (HW9.out.1.map.below hW).lookup (w := W) kT Tryz.underlying50 (zeroI W) HOK.out false
            rw [n3] at m1
            rw [n2] at m2
            exact ⟨y0, y1, y2, by rw [hek]; exact m1, m2⟩⟩
           clear hek n1 n2 n3
           go_upto_region 34 with (first
            | (go_at_call 22; (with_reducible refine hap.mono ?_); rintro u_ w5 ⟨rfl, rfl⟩)
            | (go_at_call 23; (with_reducible refine hfi.mono ?_); rintro u_ w7 ⟨rfl, hg7⟩))
           replace hbw := hbw.trans (hg7.below.mono hbw.size)
           clear hg7 hap hfi z0 z1 z2
           have k0 := fun n : Bw w7 => (HC8.out n.W (hbw.trans (n.h.mono hbw.size))).1
           have k1 := fun n : Bw w7 => (HC8.out n.W (hbw.trans (n.h.mono hbw.size))).2.1
           have k2 := fun n : Bw w7 => (HC8.out n.W (hbw.trans (n.h.mono hbw.size))).2.2.1
           have k3 := fun n : Bw w7 => (HC8.out n.W (hbw.trans (n.h.mono hbw.size))).2.2.2.1
           have k4 := fun n : Bw w7 => (HC8.out n.W (hbw.trans (n.h.mono hbw.size))).2.2.2.2
           have hown2 : ∀ W, Below w7.heap.size w7 W → Calls Tryz.prog 24 #[.agg #[.int .i64 x, .int .i64 z, .int .i64 c]] W fun e w' => e = .returned ek ∧ Below W.heap.size W w' := fun W _ => (hown W).mono fun e w' ⟨he, hg⟩ => ⟨he, hg.below⟩
           clear HC8 hown
           (refine wp_region_bw (by kernel_rfl) (by kernel_rfl) ?_
            repeat (first | go_big_quiet_step (exact Bw.call _ hown2) | quiet_step (exact Bw.call _ hown2))
            refine wpQuiet_nil ?_
            rintro _ ⟨nq, rfl⟩)
           go_wp2
           go_roundw
           case rel => exact ⟨3, by omega, rfl, hbw.trans (nq.h.mono hbw.size)⟩
           case measure => simp [intOf]
        ·go_wp2
         go_roundw
         case rel => exact ⟨i + 1, by go_num, by omega, hbw⟩
         case measure => simp [intOf]; omega
      ·have hin : i = (bothO l Ts).length := by omega
       subst hin
       have hfx := fixes_call (HB9.out.m.below hB)
       have d1 : decide (((bothO l Ts).length : Int) < ((bothO l Ts).length : Int)) = false := by simp
       have HBB : Aside0 (Below w.heap.size w wr) := ⟨HB1.out.trans (((HW0.out.trans (HB9.out.b.mono HW0.out.size)).trans (hB.mono (Nat.le_trans HW0.out.size HB9.out.b.size))).mono HB1.out.size)⟩
       have HMB : Aside0 (∀ k, M k → w.heap.size ≤ k) := ⟨fun k hk => Nat.le_trans (Nat.le_trans HB1.out.size HW0.out.size) (HB9.out.hm k hk)⟩
       by_cases hz : (bothF l Fs).length = 0
       ·have hz2 := List.length_eq_zero_iff.mp hz
        have ho : ∀ W, Below wr.heap.size wr W → Calls Tryz.prog 10 #[ptr mb] W fun e w' => e = .returned (.tuple #[.int .i64 ((bothO l Ts).length : Nat), .int .i64 0]) ∧ MeshAt w' mb l [] [] M ∧ Fr M W w' := fun W hW => by
         have h1 := HB9.out.m.below (hB.trans (hW.mono hB.size))
         rw [hz2] at h1
         refine (outer_call h1).mono fun e w' ⟨L', hL', he, hm, hf⟩ => ?_
         obtain ⟨q1, q2⟩ := outer_all (mesh_mesh HB9.out.m).1 HPOS.out hL'
         rw [q1] at he
         rw [q2] at hm
         exact ⟨he, hm, hf⟩
        rw [hz2] at hfx
        clear hz hz2
        go_wp2_with (first
         | (go_at_call 19; (with_reducible refine hfx.mono ?_); rintro u_ wa ⟨v7, rfl, hRa, hba⟩; obtain ⟨A8, c8, hv8, -⟩ := Kd.R_reads hRa; subst hv8)
         | (go_at_call 10; (with_reducible refine (ho _ hba).mono ?_); rintro u_ wb ⟨rfl, hmb, hfb⟩; have hct := count_call hmb)
         | (go_at_call 25; (with_reducible refine hct.mono ?_); rintro u_ wc ⟨rfl, rfl⟩))
        go_ret
        exact ⟨rfl, (HBB.out.trans (hba.mono HBB.out.size)).trans (hfb.below HMB.out (Nat.le_trans HBB.out.size hba.size))⟩
       ·have d2 : decide (0 < ((bothF l Fs).length : Int)) = true := by simp; omega
        have d3 : decide (0 < (bothF l Fs).length) = true := by simp; omega
        clear hz
        go_wp2_with (go_at_call 19; (with_reducible refine hfx.mono ?_); rintro u_ wa ⟨v7, rfl, hRa, hba⟩; obtain ⟨A8, c8, hv8, -⟩ := Kd.R_reads hRa; subst hv8)
        go_ret
        exact ⟨rfl, HBB.out.trans (hba.mono HBB.out.size)⟩
end Go.Proofs.YtaoichlepfiliaaGreatDoor.Msh
