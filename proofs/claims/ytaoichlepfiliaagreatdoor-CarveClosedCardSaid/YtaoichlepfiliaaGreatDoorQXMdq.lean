/- Lemmas of Mdq. Conditions stand in each. -/
import Derived.Test.YtaoichlepfiliaaGreatDoorQXMdn
set_option linter.unusedSimpArgs false
set_option linter.unusedVariables false
section
namespace Go.Proofs.YtaoichlepfiliaaGreatDoor.Msh
open Go.RowKit Go.Sort Go.ChangeMaps Go.MapKept Go.Proofs.YtaoichlepfiliaaGreatDoor.Mp Go.Proofs.YtaoichlepfiliaaGreatDoor.Adm Go.Proofs.YtaoichlepfiliaaGreatDoor.Kfl Go.Proofs.YtaoichlepfiliaaGreatDoorW.PrintWords Go.Proofs.YtaoichlepfiliaaGreatDoorW.PrintLast
theorem parts_len {fx : Int → Int → Prop} {O : List Tr} {L : List (List Tr)} (h : IsParts fx O L) : L.length ≤ O.length := by
 have h1 : (L.map fun p => p.head?.getD (0, 0, 0)).Nodup := h.heads.imp fun {a b} hab e => by rw [e] at hab; exact lt3_irrefl _ hab
 have := nodup_size _ O h1 fun t ht => by
  obtain ⟨p, hp, rfl⟩ := List.mem_map.mp ht
  exact (h.part p hp _ (up_head (h.up p hp) (h.ne p hp)).1).1
 simpa using this
theorem part_len {fx : Int → Int → Prop} {O : List Tr} {L : List (List Tr)} (h : IsParts fx O L) {p : List Tr} (hp : p ∈ L) : p.length ≤ O.length := nodup_size p O (up_nodup (h.up p hp)) fun t ht => (h.part p hp t ht).1
theorem next_facts {dm a r w : List Tr} {t : Tr} (h : dm ++ ((t :: a) ++ r) = w) (hn : w.Nodup) : t ∈ w ∧ t ∉ dm ∧ dm.length + 1 ≤ w.length ∧ (dm ++ [t]) ++ (a ++ r) = w := by
 subst h
 refine ⟨by simp, fun q => ?_, by simp only [List.length_append, List.length_cons]; omega, by simp⟩
 rw [List.nodup_append] at hn
 exact hn.2.2 _ q _ (by simp) rfl
theorem Pr.rebase {W : World} {b b' : Nat} {v : Value} {hs : List Sl} {L : List (List Tr)} (h : Pr W b v hs L) (hb : b' ≤ b) : Pr W b' v hs L :=
 ⟨sl_row.mpr ((sl_row.mp h.row).rebase hb), h.len, fun i x p hx hp => tr_row.mpr ((tr_row.mp (h.at_ i x p hx hp)).rebase hb)⟩
theorem tdelO_call (B : Nat) {w w2 : World} {base : Nat} {O F : List Tr} {v : Value} {hs : List Sl} {L : List (List Tr)} (hPr : Pr w2 base v hs L) (hL : IsParts (Fixd F) O L) (hbs : w.heap.size < base) (hbw : base ≤ w2.heap.size) (hB : Below w.heap.size w w2) (hz : O.length ≤ 1099511627776) (kind : Tr → Bool)
 (hk : w2.cell? ⟨w.heap.size, 0, none⟩ = some (.func (.func 39) #[] #[.pointer (some ⟨B, 0, none⟩)])) (hlt : w.heap.size < w2.heap.size) (hp : ∀ t ∈ O, ∀ W, Below w.heap.size w W → Calls Tryz.prog 39 #[encT t, .pointer (some ⟨B, 0, none⟩)] W fun e w' => e = .returned (.bool (kind t)) ∧ Below W.heap.size W w') :
 Calls Tryz.prog 73 #[v, .func (.func 74) #[] #[.pointer (some ⟨w.heap.size, 0, none⟩)]] w2 fun e w3 => ∃ v' hs', e = .returned v' ∧ Pr w3 base v' hs' (L.filter fun p => p.any kind) ∧ Below base w2 w3 := by
 have hlen := hPr.len
 have hpl := parts_len hL
 have hrow := hPr.row
 obtain ⟨ps, rfl, rfl, hRs⟩ := hPr.pairs
 have hbv : ∀ q, v.ownBlock = some q → base ≤ q := fun q hq => Kd.R_base hrow q hq
 have hgB : ∀ {W}, w2.grownBy W v.ownBlock → ∀ k, k < base → k < w2.heap.size → W.heap[k]? = w2.heap[k]? := fun hg k h1 h2 => hg.block k h2 fun e => by have := hbv k e.symm; omega
 have hd := delS_call w.heap.size hrow (by omega) (fun x => !ofKind ps (fun p => p.any kind) x) (fun x hx W hW => by
  obtain ⟨y, hy, rfl⟩ := List.mem_map.mp hx
  have hyL : y.2 ∈ ps.map (·.2) := List.mem_map.mpr ⟨y, hy, rfl⟩
  have hWw : Below w.heap.size w W := ⟨hW.os.trans hB.os, hW.tape.trans hB.tape, hW.output.trans hB.output, Nat.le_trans hB.size hW.size, fun q hq => (hgB hW q (by omega) (Nat.lt_of_lt_of_le hq hB.size)).trans (hB.block q hq)⟩
  have hkW : W.cell? ⟨w.heap.size, 0, none⟩ = some (.func (.func 39) #[] #[.pointer (some ⟨B, 0, none⟩)]) := by
   rw [World.cell?_of_block (hgB hW w.heap.size hbs hlt)]; exact hk
  refine (takecO_call w.heap.size B hkW (tr_grow (hRs y hy) hrow hW) (Nat.le_trans (part_len hL hyL) hz) kind (fun t ht W' hb => hp t (hL.part y.2 hyL t ht).1 W' (hWw.trans (hb.mono hWw.size)))).mono fun e w' ⟨he, hb⟩ => ⟨?_, hb⟩
  rw [he, kind_iff hRs (fun p => p.any kind) y hy])
 refine hd.mono fun e w3 ⟨v', he, h1, h2, h3⟩ => ?_
 simp only [Bool.not_not] at h1
 refine ⟨v', _, he, Pr.left hRs hrow (fun p => p.any kind) h1 h2, ?_⟩
 exact ⟨h2.os, h2.tape, h2.output, h2.size, fun k hk => hgB h2 k hk (by omega)⟩
set_option maxRecDepth 100000 in
set_option maxHeartbeats 16000000 in
theorem takeO_call (B : Nat) {w : World} {mb : Nat} {l : List S} {O F : List Tr} {M : Nat → Prop} (h : MeshAt w mb l O F M) (kind : Tr → Bool) (hp : ∀ t ∈ O, ∀ W, Below w.heap.size w W → Calls Tryz.prog 39 #[encT t, .pointer (some ⟨B, 0, none⟩)] W fun e w' => e = .returned (.bool (kind t)) ∧ Below W.heap.size W w') :
 Calls Tryz.prog 38 #[ptr mb, .func (.func 39) #[] #[.pointer (some ⟨B, 0, none⟩)]] w fun e w' => ∃ L, IsParts (Fixd F) O L ∧ e = .returned (.tuple #[.int .i64 (((L.filter fun p => p.any kind).flatten.length : Nat) : Int), .int .i64 0]) ∧ MeshAt w' mb l (O.filter fun t => decide (t ∉ (L.filter fun p => p.any kind).flatten)) F M ∧ Fr M w w' := by
 have HK := Aside0.mk (And.intro (mesh_mesh h).1 (And.intro (mesh_len h) (And.intro h.old fun t ht => mesh_rng h (t := t) ht)))
 obtain ⟨W1, hW1⟩ : ∃ W1, W1 = w.alloc (.cells #[.func (.func 39) #[] #[.pointer (some ⟨B, 0, none⟩)]] 81) := ⟨_, rfl⟩
 have hB1 : Below w.heap.size w W1 := by rw [hW1]; exact below_alloc (Below.refl _ _) _
 have hbox : W1.heap[w.heap.size]? = some (.cells #[.func (.func 39) #[] #[.pointer (some ⟨B, 0, none⟩)]] 81 (0, 0)) := by rw [hW1]; exact blk_new _ _
 have hpt := parts_call (h.below hB1)
 have hmf : ∀ (fn : Fn) (first cap : Array Value) (w : World), (Instr.makeFunc fn first cap).run Tryz.prog w = .ok (.func fn first cap) w := fun _ _ _ _ => rfl
 have HM := Aside0.mk (And.intro (h.below hB1) (And.intro hB1 (And.intro hbox hp)))
 clear h hB1 hp
 go_enter Tryz.func38, Tryz.ntmps38
 go_wp2_with (first
  | (rw [← hW1]; go_at_call 20; (with_reducible refine hpt.mono ?_); rintro u_ w2 ⟨v2, hs2, L, rfl, hPr2, hL2, hB2⟩; have hbx2 := (hB2.block w.heap.size (blk_lt HM.out.2.2.1)).trans HM.out.2.2.1; have hbs := blk_lt HM.out.2.2.1; have hdl := tdelO_call B (w := w) hPr2 hL2 hbs hB2.size (HM.out.2.1.trans (hB2.mono HM.out.2.1.size)) HK.out.2.1 kind (blk_cell hbx2 0) (blk_lt hbx2) HM.out.2.2.2)
  | (go_at_call 73; (with_reducible refine hdl.mono ?_); rintro u_ w3 ⟨v3, hs3, rfl, hPr3, hB3⟩; obtain ⟨A3, c3, hv3⟩ := (sl_row.mp hPr3.row).any; subst hv3))
 have hPd := hPr3.rebase (Nat.le_of_lt hbs)
 have hBw : Below w.heap.size w w3 := (HM.out.2.1.trans (hB2.mono HM.out.2.1.size)).trans (hB3.mono (Nat.le_of_lt hbs))
 have HL := Aside0.mk hL2
 have HDO : Aside0 ((∀ t ∈ (L.filter fun p => p.any kind).flatten, t ∈ O) ∧ (L.filter fun p => p.any kind).flatten.Nodup ∧ (L.filter fun p => p.any kind).length ≤ O.length ∧ ∀ p ∈ L.filter fun p => p.any kind, p.length ≤ O.length) := ⟨⟨fun t ht => ((hL2.of_kind _).mp ht).1, hL2.flat_nodup _, Nat.le_trans (List.length_filter_le _ _) (parts_len hL2), fun p hp => part_len hL2 (List.mem_filter.mp hp).1⟩⟩
 have HS : Aside0 (Tk w mb l O F M (.slice A3 hs3.length c3) hs3 (L.filter fun p => p.any kind) [] w3) := ⟨⟨by
  have e : (O.filter fun t => decide (t ∉ ([] : List Tr))) = O := List.filter_eq_self.mpr fun t _ => by simp
  rw [e]
  exact HM.out.1.below (hB2.trans hB3), hPd, Fr.of_below hBw⟩⟩
 generalize hD : (L.filter fun p => p.any kind) = D at *
 have HLN := Aside0.mk hPd.len
 clear hpt hdl hPr2 hL2 hB2 hPr3 hB3 hPd hBw hbox hbx2 hbs
 go_loopw [26, 8] (fun v26 v8 wr => ∃ (i : Nat) (dn : List Tr), v26 = .int .i64 i ∧ i ≤ D.length ∧ v8 = .int .i64 (dn.length : Nat) ∧ Aside0 (Tk w mb l O F M (.slice A3 hs3.length c3) hs3 D dn wr) ∧ Aside0 (dn ++ (D.drop i).flatten = D.flatten)) (fun v26 _ _ => D.length - (intOf v26).toNat)
 case atStart => exact ⟨0, [], rfl, by omega, rfl, HS, ⟨rfl⟩⟩
 case round =>
  clear HS
  obtain ⟨i, dn, rfl, hi, rfl, HT, HE⟩ := hrel
  by_cases hlt : i < D.length
  ·have hlx : i < hs3.length := by have := HLN.out; omega
   have d1 : decide (i < hs3.length) = true := decide_eq_true hlx
   have d2 : ((i < hs3.length) = True) := by simp; exact hlx
   have ii : IntKind.i64.wrap ((i : Int) + 1) = (i : Int) + 1 := wrapN (by have := HK.out.2.1; have := HDO.out.2.2.1; omega) (by have := HK.out.2.1; have := HDO.out.2.2.1; omega)
   obtain ⟨g, cap, hv, -⟩ := (sl_row.mp HT.out.prs.row).shape (by omega)
   injection hv with hv1 _ hv2
   subst hv1 hv2
   have hx := List.getElem?_eq_getElem hlx
   have hq := List.getElem?_eq_getElem hlt
   have hRi := HT.out.prs.at_ i _ _ hx hq
   have z0 := (sl_row.mp HT.out.prs.row).cell (sl_cell hx)
   obtain ⟨A4, c4, hv4⟩ := (tr_row.mp hRi).any
   rw [hv4] at z0
   have HQ := Aside0.mk (And.intro hx (And.intro hq hv4))
   have hdr : D.drop i = D[i] :: D.drop (i + 1) := List.drop_eq_getElem_cons hlt
   rw [hdr, List.flatten_cons] at HE
   have HPL := Aside0.mk (HDO.out.2.2.2 D[i] (List.getElem_mem hlt))
   clear hx hRi hdr
   generalize D[i] = p at *
   generalize hs3[i] = x at *
   go_wp2
   go_loopw [32, 8] (fun v32 v8 wr => ∃ (j : Nat) (dm : List Tr), v32 = .int .i64 j ∧ j ≤ p.length ∧ v8 = .int .i64 (dm.length : Nat) ∧ Aside0 (Tk w mb l O F M (.slice (some ⟨g, 0, none⟩) hs3.length c3) hs3 D dm wr) ∧ Aside0 (dm ++ (p.drop j ++ (D.drop (i + 1)).flatten) = D.flatten)) (fun v32 _ _ => p.length - (intOf v32).toNat)
   case atStart => exact ⟨0, dn, rfl, by omega, rfl, HT, ⟨by rw [List.drop_zero]; exact HE.out⟩⟩
   case round =>
    clear HT HE z0 hq hv4 d1 d2 hlx
    obtain ⟨j, dm, rfl, hj, rfl, HT, HE⟩ := hrel
    by_cases hlj : j < p.length
    ·have d1 : decide (j < p.length) = true := decide_eq_true hlj
     have d2 : ((j < p.length) = True) := by simp; omega
     have ij : IntKind.i64.wrap ((j : Int) + 1) = (j : Int) + 1 := wrapN (by have := HK.out.2.1; have := HPL.out; omega) (by have := HK.out.2.1; have := HPL.out; omega)
     have hRi := HT.out.prs.at_ i _ _ HQ.out.1 HQ.out.2.1
     rw [HQ.out.2.2] at hRi
     obtain ⟨g4, cap4, hv, -⟩ := (tr_row.mp hRi).shape (by omega)
     injection hv with hv1 _ hv2
     have hOk : p[j]? = some p[j] := List.getElem?_eq_getElem hlj
     rw [hv1] at hRi ⊢
     have hc := fun q u (hu : (cT p[j])[q]? = some u) (hq : q < 3) => (tr_row.mp hRi).cell (j := j * 3 + q) ((at_cell hOk hq).trans hu)
     have hdr : p.drop j = p[j] :: p.drop (j + 1) := List.drop_eq_getElem_cons hlj
     rw [hdr] at HE
     obtain ⟨hmem, hnd, hdl0, hEN⟩ := next_facts HE.out HDO.out.2.1
     have hdl : dm.length ≤ O.length := by
      have h1 := nodup_size _ O HDO.out.2.1 HDO.out.1
      omega
     have HEN := Aside0.mk hEN
     clear hdl0 hEN
     have htO := HDO.out.1 _ hmem
     have hok := HK.out.2.2.2 _ htO
     have HKL := Aside0.mk (And.intro htO hnd)
     generalize p[j] = t at *
     have z0 := (hc 0 _ rfl (by omega) : wr.cell? _ = some (Value.int .i64 t.1))
     have z1 := (hc 1 _ rfl (by omega) : wr.cell? _ = some (Value.int .i64 t.2.1))
     have z2 := (hc 2 _ rfl (by omega) : wr.cell? _ = some (Value.int .i64 t.2.2))
     simp only [Nat.add_zero] at z0
     have i8 : IntKind.i64.wrap (((dm.length : Nat) : Int) + 1) = ((dm.length : Nat) : Int) + 1 := wrapN (by have := HK.out.2.1; omega) (by have := HK.out.2.1; omega)
     have HTV : Aside0 (Tk w mb l O F M (.slice (some ⟨g, 0, none⟩) hs3.length c3) hs3 D dm (wr.alloc (.cells #[.int .i64 t.1, .int .i64 t.2.1, .int .i64 t.2.2] 53))) := ⟨HT.out.below (below_alloc (Below.refl _ _) _)⟩
     have hkl := kill_call (a := t.1) (b := t.2.1) (c := t.2.2) HTV.out.mesh hok.1 hok.2.1
     clear hc hOk hRi hdr hmem hnd hdl htO hok hv1 hv2 HE HT
     go_wp2_with (go_at_call 75; (with_reducible refine hkl.mono ?_); intro u_ w5 hK5; have hK6 := hK5; unfold KillPost at hK6; obtain ⟨rfl, -⟩ := hK6)
     have HTN := Aside0.mk (HTV.out.kill (t := t) HK.out.2.2.1 HK.out.1 HKL.out.1 HKL.out.2 hK5)
     go_roundw
     case rel => exact ⟨j + 1, dm ++ [t], by simp, by omega, by simp, HTN, HEN⟩
     case measure => simp [intOf]; omega
    ·have e : j = p.length := by omega
     subst e
     have HEN : Aside0 (dm ++ (D.drop (i + 1)).flatten = D.flatten) := ⟨by have := HE.out; rw [List.drop_length] at this; simpa using this⟩
     clear HE
     go_wp2
     go_roundw
     case rel => exact ⟨i + 1, dm, by simp, by omega, rfl, HT, HEN⟩
     case measure => simp [intOf]; omega
  ·have e : i = D.length := by omega
   subst e
   have hdn : dn = D.flatten := by
    have := HE.out
    rw [List.drop_length] at this
    simpa using this
   subst hdn
   have d2 : ((D.length < hs3.length) = False) := by have := HLN.out; simp; omega
   have d1 : decide (D.length < hs3.length) = false := by have := HLN.out; simp; omega
   have HF := Aside0.mk (And.intro HT.out.mesh HT.out.fr)
   clear HT HE
   go_wp2
   go_ret2
   refine ⟨L, HL.out, ?_⟩
   rw [hD]
   exact ⟨rfl, HF.out.1, HF.out.2⟩
theorem tdelH_call (B C : Nat) {w w2 : World} {base : Nat} {O F : List Tr} {v : Value} {hs : List Sl} {L : List (List Tr)} (hPr : Pr w2 base v hs L) (hL : IsParts (Fixd F) O L) (hbs : w.heap.size < base) (hbw : base ≤ w2.heap.size) (hB : Below w.heap.size w w2) (hz : O.length ≤ 1099511627776) (kind : Tr → Bool)
 (hk : w2.cell? ⟨w.heap.size, 0, none⟩ = some (.func (.func 43) #[] #[.pointer (some ⟨B, 0, none⟩), .pointer (some ⟨C, 0, none⟩)])) (hlt : w.heap.size < w2.heap.size) (hp : ∀ t ∈ O, ∀ W, Below w.heap.size w W → Calls Tryz.prog 43 #[encT t, .pointer (some ⟨B, 0, none⟩), .pointer (some ⟨C, 0, none⟩)] W fun e w' => e = .returned (.bool (kind t)) ∧ Below W.heap.size W w') :
 Calls Tryz.prog 73 #[v, .func (.func 74) #[] #[.pointer (some ⟨w.heap.size, 0, none⟩)]] w2 fun e w3 => ∃ v' hs', e = .returned v' ∧ Pr w3 base v' hs' (L.filter fun p => p.any kind) ∧ Below base w2 w3 := by
 have hlen := hPr.len
 have hpl := parts_len hL
 have hrow := hPr.row
 obtain ⟨ps, rfl, rfl, hRs⟩ := hPr.pairs
 have hbv : ∀ q, v.ownBlock = some q → base ≤ q := fun q hq => Kd.R_base hrow q hq
 have hgB : ∀ {W}, w2.grownBy W v.ownBlock → ∀ k, k < base → k < w2.heap.size → W.heap[k]? = w2.heap[k]? := fun hg k h1 h2 => hg.block k h2 fun e => by have := hbv k e.symm; omega
 have hd := delS_call w.heap.size hrow (by omega) (fun x => !ofKind ps (fun p => p.any kind) x) (fun x hx W hW => by
  obtain ⟨y, hy, rfl⟩ := List.mem_map.mp hx
  have hyL : y.2 ∈ ps.map (·.2) := List.mem_map.mpr ⟨y, hy, rfl⟩
  have hWw : Below w.heap.size w W := ⟨hW.os.trans hB.os, hW.tape.trans hB.tape, hW.output.trans hB.output, Nat.le_trans hB.size hW.size, fun q hq => (hgB hW q (by omega) (Nat.lt_of_lt_of_le hq hB.size)).trans (hB.block q hq)⟩
  have hkW : W.cell? ⟨w.heap.size, 0, none⟩ = some (.func (.func 43) #[] #[.pointer (some ⟨B, 0, none⟩), .pointer (some ⟨C, 0, none⟩)]) := by
   rw [World.cell?_of_block (hgB hW w.heap.size hbs hlt)]; exact hk
  refine (takecH_call w.heap.size B C hkW (tr_grow (hRs y hy) hrow hW) (Nat.le_trans (part_len hL hyL) hz) kind (fun t ht W' hb => hp t (hL.part y.2 hyL t ht).1 W' (hWw.trans (hb.mono hWw.size)))).mono fun e w' ⟨he, hb⟩ => ⟨?_, hb⟩
  rw [he, kind_iff hRs (fun p => p.any kind) y hy])
 refine hd.mono fun e w3 ⟨v', he, h1, h2, h3⟩ => ?_
 simp only [Bool.not_not] at h1
 refine ⟨v', _, he, Pr.left hRs hrow (fun p => p.any kind) h1 h2, ?_⟩
 exact ⟨h2.os, h2.tape, h2.output, h2.size, fun k hk => hgB h2 k hk (by omega)⟩
set_option maxRecDepth 100000 in
set_option maxHeartbeats 16000000 in
theorem takeH_call (B C : Nat) {w : World} {mb : Nat} {l : List S} {O F : List Tr} {M : Nat → Prop} (h : MeshAt w mb l O F M) (kind : Tr → Bool) (hp : ∀ t ∈ O, ∀ W, Below w.heap.size w W → Calls Tryz.prog 43 #[encT t, .pointer (some ⟨B, 0, none⟩), .pointer (some ⟨C, 0, none⟩)] W fun e w' => e = .returned (.bool (kind t)) ∧ Below W.heap.size W w') :
 Calls Tryz.prog 38 #[ptr mb, .func (.func 43) #[] #[.pointer (some ⟨B, 0, none⟩), .pointer (some ⟨C, 0, none⟩)]] w fun e w' => ∃ L, IsParts (Fixd F) O L ∧ e = .returned (.tuple #[.int .i64 (((L.filter fun p => p.any kind).flatten.length : Nat) : Int), .int .i64 0]) ∧ MeshAt w' mb l (O.filter fun t => decide (t ∉ (L.filter fun p => p.any kind).flatten)) F M ∧ Fr M w w' := by
 have HK := Aside0.mk (And.intro (mesh_mesh h).1 (And.intro (mesh_len h) (And.intro h.old fun t ht => mesh_rng h (t := t) ht)))
 obtain ⟨W1, hW1⟩ : ∃ W1, W1 = w.alloc (.cells #[.func (.func 43) #[] #[.pointer (some ⟨B, 0, none⟩), .pointer (some ⟨C, 0, none⟩)]] 81) := ⟨_, rfl⟩
 have hB1 : Below w.heap.size w W1 := by rw [hW1]; exact below_alloc (Below.refl _ _) _
 have hbox : W1.heap[w.heap.size]? = some (.cells #[.func (.func 43) #[] #[.pointer (some ⟨B, 0, none⟩), .pointer (some ⟨C, 0, none⟩)]] 81 (0, 0)) := by rw [hW1]; exact blk_new _ _
 have hpt := parts_call (h.below hB1)
 have hmf : ∀ (fn : Fn) (first cap : Array Value) (w : World), (Instr.makeFunc fn first cap).run Tryz.prog w = .ok (.func fn first cap) w := fun _ _ _ _ => rfl
 have HM := Aside0.mk (And.intro (h.below hB1) (And.intro hB1 (And.intro hbox hp)))
 clear h hB1 hp
 go_enter Tryz.func38, Tryz.ntmps38
 go_wp2_with (first
  | (rw [← hW1]; go_at_call 20; (with_reducible refine hpt.mono ?_); rintro u_ w2 ⟨v2, hs2, L, rfl, hPr2, hL2, hB2⟩; have hbx2 := (hB2.block w.heap.size (blk_lt HM.out.2.2.1)).trans HM.out.2.2.1; have hbs := blk_lt HM.out.2.2.1; have hdl := tdelH_call B C (w := w) hPr2 hL2 hbs hB2.size (HM.out.2.1.trans (hB2.mono HM.out.2.1.size)) HK.out.2.1 kind (blk_cell hbx2 0) (blk_lt hbx2) HM.out.2.2.2)
  | (go_at_call 73; (with_reducible refine hdl.mono ?_); rintro u_ w3 ⟨v3, hs3, rfl, hPr3, hB3⟩; obtain ⟨A3, c3, hv3⟩ := (sl_row.mp hPr3.row).any; subst hv3))
 have hPd := hPr3.rebase (Nat.le_of_lt hbs)
 have hBw : Below w.heap.size w w3 := (HM.out.2.1.trans (hB2.mono HM.out.2.1.size)).trans (hB3.mono (Nat.le_of_lt hbs))
 have HL := Aside0.mk hL2
 have HDO : Aside0 ((∀ t ∈ (L.filter fun p => p.any kind).flatten, t ∈ O) ∧ (L.filter fun p => p.any kind).flatten.Nodup ∧ (L.filter fun p => p.any kind).length ≤ O.length ∧ ∀ p ∈ L.filter fun p => p.any kind, p.length ≤ O.length) := ⟨⟨fun t ht => ((hL2.of_kind _).mp ht).1, hL2.flat_nodup _, Nat.le_trans (List.length_filter_le _ _) (parts_len hL2), fun p hp => part_len hL2 (List.mem_filter.mp hp).1⟩⟩
 have HS : Aside0 (Tk w mb l O F M (.slice A3 hs3.length c3) hs3 (L.filter fun p => p.any kind) [] w3) := ⟨⟨by
  have e : (O.filter fun t => decide (t ∉ ([] : List Tr))) = O := List.filter_eq_self.mpr fun t _ => by simp
  rw [e]
  exact HM.out.1.below (hB2.trans hB3), hPd, Fr.of_below hBw⟩⟩
 generalize hD : (L.filter fun p => p.any kind) = D at *
 have HLN := Aside0.mk hPd.len
 clear hpt hdl hPr2 hL2 hB2 hPr3 hB3 hPd hBw hbox hbx2 hbs
 go_loopw [26, 8] (fun v26 v8 wr => ∃ (i : Nat) (dn : List Tr), v26 = .int .i64 i ∧ i ≤ D.length ∧ v8 = .int .i64 (dn.length : Nat) ∧ Aside0 (Tk w mb l O F M (.slice A3 hs3.length c3) hs3 D dn wr) ∧ Aside0 (dn ++ (D.drop i).flatten = D.flatten)) (fun v26 _ _ => D.length - (intOf v26).toNat)
 case atStart => exact ⟨0, [], rfl, by omega, rfl, HS, ⟨rfl⟩⟩
 case round =>
  clear HS
  obtain ⟨i, dn, rfl, hi, rfl, HT, HE⟩ := hrel
  by_cases hlt : i < D.length
  ·have hlx : i < hs3.length := by have := HLN.out; omega
   have d1 : decide (i < hs3.length) = true := decide_eq_true hlx
   have d2 : ((i < hs3.length) = True) := by simp; exact hlx
   have ii : IntKind.i64.wrap ((i : Int) + 1) = (i : Int) + 1 := wrapN (by have := HK.out.2.1; have := HDO.out.2.2.1; omega) (by have := HK.out.2.1; have := HDO.out.2.2.1; omega)
   obtain ⟨g, cap, hv, -⟩ := (sl_row.mp HT.out.prs.row).shape (by omega)
   injection hv with hv1 _ hv2
   subst hv1 hv2
   have hx := List.getElem?_eq_getElem hlx
   have hq := List.getElem?_eq_getElem hlt
   have hRi := HT.out.prs.at_ i _ _ hx hq
   have z0 := (sl_row.mp HT.out.prs.row).cell (sl_cell hx)
   obtain ⟨A4, c4, hv4⟩ := (tr_row.mp hRi).any
   rw [hv4] at z0
   have HQ := Aside0.mk (And.intro hx (And.intro hq hv4))
   have hdr : D.drop i = D[i] :: D.drop (i + 1) := List.drop_eq_getElem_cons hlt
   rw [hdr, List.flatten_cons] at HE
   have HPL := Aside0.mk (HDO.out.2.2.2 D[i] (List.getElem_mem hlt))
   clear hx hRi hdr
   generalize D[i] = p at *
   generalize hs3[i] = x at *
   go_wp2
   go_loopw [32, 8] (fun v32 v8 wr => ∃ (j : Nat) (dm : List Tr), v32 = .int .i64 j ∧ j ≤ p.length ∧ v8 = .int .i64 (dm.length : Nat) ∧ Aside0 (Tk w mb l O F M (.slice (some ⟨g, 0, none⟩) hs3.length c3) hs3 D dm wr) ∧ Aside0 (dm ++ (p.drop j ++ (D.drop (i + 1)).flatten) = D.flatten)) (fun v32 _ _ => p.length - (intOf v32).toNat)
   case atStart => exact ⟨0, dn, rfl, by omega, rfl, HT, ⟨by rw [List.drop_zero]; exact HE.out⟩⟩
   case round =>
    clear HT HE z0 hq hv4 d1 d2 hlx
    obtain ⟨j, dm, rfl, hj, rfl, HT, HE⟩ := hrel
    by_cases hlj : j < p.length
    ·have d1 : decide (j < p.length) = true := decide_eq_true hlj
     have d2 : ((j < p.length) = True) := by simp; omega
     have ij : IntKind.i64.wrap ((j : Int) + 1) = (j : Int) + 1 := wrapN (by have := HK.out.2.1; have := HPL.out; omega) (by have := HK.out.2.1; have := HPL.out; omega)
     have hRi := HT.out.prs.at_ i _ _ HQ.out.1 HQ.out.2.1
     rw [HQ.out.2.2] at hRi
     obtain ⟨g4, cap4, hv, -⟩ := (tr_row.mp hRi).shape (by omega)
     injection hv with hv1 _ hv2
     have hOk : p[j]? = some p[j] := List.getElem?_eq_getElem hlj
     rw [hv1] at hRi ⊢
     have hc := fun q u (hu : (cT p[j])[q]? = some u) (hq : q < 3) => (tr_row.mp hRi).cell (j := j * 3 + q) ((at_cell hOk hq).trans hu)
     have hdr : p.drop j = p[j] :: p.drop (j + 1) := List.drop_eq_getElem_cons hlj
     rw [hdr] at HE
     obtain ⟨hmem, hnd, hdl0, hEN⟩ := next_facts HE.out HDO.out.2.1
     have hdl : dm.length ≤ O.length := by
      have h1 := nodup_size _ O HDO.out.2.1 HDO.out.1
      omega
     have HEN := Aside0.mk hEN
     clear hdl0 hEN
     have htO := HDO.out.1 _ hmem
     have hok := HK.out.2.2.2 _ htO
     have HKL := Aside0.mk (And.intro htO hnd)
     generalize p[j] = t at *
     have z0 := (hc 0 _ rfl (by omega) : wr.cell? _ = some (Value.int .i64 t.1))
     have z1 := (hc 1 _ rfl (by omega) : wr.cell? _ = some (Value.int .i64 t.2.1))
     have z2 := (hc 2 _ rfl (by omega) : wr.cell? _ = some (Value.int .i64 t.2.2))
     simp only [Nat.add_zero] at z0
     have i8 : IntKind.i64.wrap (((dm.length : Nat) : Int) + 1) = ((dm.length : Nat) : Int) + 1 := wrapN (by have := HK.out.2.1; omega) (by have := HK.out.2.1; omega)
     have HTV : Aside0 (Tk w mb l O F M (.slice (some ⟨g, 0, none⟩) hs3.length c3) hs3 D dm (wr.alloc (.cells #[.int .i64 t.1, .int .i64 t.2.1, .int .i64 t.2.2] 53))) := ⟨HT.out.below (below_alloc (Below.refl _ _) _)⟩
     have hkl := kill_call (a := t.1) (b := t.2.1) (c := t.2.2) HTV.out.mesh hok.1 hok.2.1
     clear hc hOk hRi hdr hmem hnd hdl htO hok hv1 hv2 HE HT
     go_wp2_with (go_at_call 75; (with_reducible refine hkl.mono ?_); intro u_ w5 hK5; have hK6 := hK5; unfold KillPost at hK6; obtain ⟨rfl, -⟩ := hK6)
     have HTN := Aside0.mk (HTV.out.kill (t := t) HK.out.2.2.1 HK.out.1 HKL.out.1 HKL.out.2 hK5)
     go_roundw
     case rel => exact ⟨j + 1, dm ++ [t], by simp, by omega, by simp, HTN, HEN⟩
     case measure => simp [intOf]; omega
    ·have e : j = p.length := by omega
     subst e
     have HEN : Aside0 (dm ++ (D.drop (i + 1)).flatten = D.flatten) := ⟨by have := HE.out; rw [List.drop_length] at this; simpa using this⟩
     clear HE
     go_wp2
     go_roundw
     case rel => exact ⟨i + 1, dm, by simp, by omega, rfl, HT, HEN⟩
     case measure => simp [intOf]; omega
  ·have e : i = D.length := by omega
   subst e
   have hdn : dn = D.flatten := by
    have := HE.out
    rw [List.drop_length] at this
    simpa using this
   subst hdn
   have d2 : ((D.length < hs3.length) = False) := by have := HLN.out; simp; omega
   have d1 : decide (D.length < hs3.length) = false := by have := HLN.out; simp; omega
   have HF := Aside0.mk (And.intro HT.out.mesh HT.out.fr)
   clear HT HE
   go_wp2
   go_ret2
   refine ⟨L, HL.out, ?_⟩
   rw [hD]
   exact ⟨rfl, HF.out.1, HF.out.2⟩
section
variable {w W : World} {mb B : Nat} {l : List S} {O F : List Tr} {M : Nat → Prop}
set_option maxHeartbeats 1000000 in
theorem outerc_call (h : MeshAt W mb l O F M) (hk : W.cell? ⟨B, 0, none⟩ = some (ptr mb)) {t : Tr} (ht : okT t) : Calls Tryz.prog 39 #[encT t, .pointer (some ⟨B, 0, none⟩)] W fun e w' => e = .returned (.bool (openB O F t)) ∧ Below W.heap.size W w' := by
 obtain ⟨a, b, c⟩ := t
 unfold encT
 simp only
 obtain ⟨W1, hW1⟩ : ∃ W1, W1 = W.alloc (.cells #[.int .i64 a, .int .i64 b, .int .i64 c] 53) := ⟨_, rfl⟩
 have hB1 : Below W.heap.size W W1 := by rw [hW1]; exact below_alloc (Below.refl _ _) _
 have hop := open_call (h.below hB1) ht.1 ht.2.1 ht.2.2
 have k1 := bcell hB1 hk
 rw [hW1] at hop hB1 k1
 clear h ht hW1 hk
 go_enter Tryz.func39, Tryz.ntmps39
 go_wp2_with (go_at_call 40; (with_reducible refine hop.mono ?_); rintro u_ w2 ⟨rfl, hg2⟩)
 go_ret
 exact ⟨rfl, hB1.trans (hg2.below.mono hB1.size)⟩
set_option maxHeartbeats 1000000 in
theorem outer_call (h : MeshAt w mb l O F M) : Calls Tryz.prog 10 #[ptr mb] w fun e w' => ∃ L, IsParts (Fixd F) O L ∧ e = .returned (.tuple #[.int .i64 (((L.filter fun p => p.any (openB O F)).flatten.length : Nat) : Int), .int .i64 0]) ∧ MeshAt w' mb l (O.filter fun t => decide (t ∉ (L.filter fun p => p.any (openB O F)).flatten)) F M ∧ Fr M w w' := by
 obtain ⟨W1, hW1⟩ : ∃ W1, W1 = w.alloc (.cells #[ptr mb] 29) := ⟨_, rfl⟩
 have hB1 : Below w.heap.size w W1 := by rw [hW1]; exact below_alloc (Below.refl _ _) _
 have hbox : W1.heap[w.heap.size]? = some (.cells #[ptr mb] 29 (0, 0)) := by rw [hW1]; exact blk_new _ _
 have hmf : ∀ (fn : Fn) (first cap : Array Value) (w : World), (Instr.makeFunc fn first cap).run Tryz.prog w = .ok (.func fn first cap) w := fun _ _ _ _ => rfl
 have htk := takeO_call w.heap.size (h.below hB1) (openB O F) (fun t ht W hb => outerc_call ((h.below hB1).below hb) (bcell hb (blk_cell hbox 0)) (mesh_rng h ht))
 have hc := (blk_cell hbox 0).trans (show _ = some (ptr mb) from rfl)
 rw [hW1] at htk hB1 hc
 clear h hbox hW1
 go_enter Tryz.func10, Tryz.ntmps10
 go_wp2_with (go_at_call 38; (with_reducible refine htk.mono ?_); rintro u_ w2 ⟨L, hL, he, hM2, hF2⟩; generalize hn : (L.filter fun p => p.any (openB O F)).flatten.length = n at he; subst he)
 go_ret2
 refine ⟨L, hL, ?_, hM2, ?_⟩
 ·rw [hn]; rfl
 ·exact (Fr.of_below (M := M) hB1).trans hF2 fun _ _ q => q
end
end Go.Proofs.YtaoichlepfiliaaGreatDoor.Msh
end
