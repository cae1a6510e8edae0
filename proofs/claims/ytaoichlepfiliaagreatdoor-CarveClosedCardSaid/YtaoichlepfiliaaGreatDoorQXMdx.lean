/- Lemmas of Mdx. Conditions stand in each. -/
import Derived.Test.YtaoichlepfiliaaGreatDoorQXMdu
import Derived.Test.YtaoichlepfiliaaGreatDoorQXMcm
import Derived.Test.YtaoichlepfiliaaGreatDoorQXMco
import Derived.Test.YtaoichlepfiliaaGreatDoorQXKfl
import Derived.Test.YtaoichlepfiliaaGreatDoorQXAdm
set_option linter.unusedSimpArgs false
set_option linter.unusedVariables false
section
namespace Go.Proofs.YtaoichlepfiliaaGreatDoor.Msh
open Go.RowKit Go.Sort Go.ChangeMaps Go.MapKept Go.Proofs.YtaoichlepfiliaaGreatDoor.Mp Go.Proofs.YtaoichlepfiliaaGreatDoor.Adm Go.Proofs.YtaoichlepfiliaaGreatDoor.Kfl Go.Proofs.YtaoichlepfiliaaGreatDoor.R Go.Proofs.YtaoichlepfiliaaGreatDoor.E Go.Proofs.YtaoichlepfiliaaGreatDoorW.PrintWords Go.Proofs.YtaoichlepfiliaaGreatDoorW.PrintLast
def atP (l lp : List S) (p : List Tr) : Int := idxF (fun x => p.any fun t => liesB l t x) 0 lp
def findP (L : List (List Tr)) (t : Tr) : Option (List Tr) := L.find? fun p => decide (t ∈ p)
def spreadI (l lp : List S) (L : List (List Tr)) (t : Tr) : Int := ((findP L t).map (atP l lp)).getD 0
def valP (l lp : List S) (L : List (List Tr)) (t : Tr) : Option Value := (findP L t).map fun p => .int .i64 (atP l lp p)
def gsJ (l lp : List S) (L : List (List Tr)) (p : List Tr) (j : Nat) (t : Tr) : Option Value := if t ∈ p.take j then some (.int .i64 (atP l lp p)) else valP l lp L t
theorem valP_getD (l lp : List S) (L : List (List Tr)) (t : Tr) : (valP l lp L t).getD (.int .i64 0) = .int .i64 (spreadI l lp L t) := by
 unfold valP spreadI
 cases findP L t <;> rfl
theorem gs_start (l lp : List S) (L : List (List Tr)) (p : List Tr) : gsJ l lp L p 0 = valP l lp L := by
 funext t
 unfold gsJ
 rw [if_neg (by simp)]
theorem gs_step {l lp : List S} {L : List (List Tr)} {p : List Tr} {j : Nat} (hj : j < p.length) : upd (gsJ l lp L p j) p[j] (some (.int .i64 (atP l lp p))) = gsJ l lp L p (j + 1) := by
 funext t
 unfold upd gsJ
 rw [List.take_succ_eq_append_getElem hj]
 by_cases h : t = p[j]
 ·rw [if_pos h, if_pos (List.mem_append_right _ (List.mem_singleton.mpr h))]
 ·rw [if_neg h]
  by_cases h2 : t ∈ p.take j
  ·rw [if_pos h2, if_pos (List.mem_append_left _ h2)]
  ·rw [if_neg h2, if_neg (by simp only [List.mem_append, List.mem_singleton]; rintro (q | q); exact h2 q; exact h q)]
theorem gs_end {fx : Int → Int → Prop} {O : List Tr} {l lp : List S} {L : List (List Tr)} (h : IsParts fx O L) {i : Nat} (hi : i < L.length) : gsJ l lp (L.take i) L[i] L[i].length = valP l lp (L.take (i + 1)) := by
 funext t
 unfold gsJ valP findP
 rw [List.take_length, List.take_succ_eq_append_getElem hi, List.find?_append]
 by_cases ht : t ∈ L[i]
 ·rw [if_pos ht]
  have hn : (L.take i).find? (fun p => decide (t ∈ p)) = none := List.find?_eq_none.mpr fun q hq hd => by
   have hd2 : t ∈ q := of_decide_eq_true hd
   obtain ⟨j, hj, rfl⟩ := List.mem_take_iff_getElem.mp hq
   have e := h.apart (List.getElem_mem _) (List.getElem_mem hi) hd2 ht
   exact List.pairwise_iff_getElem.mp h.nodup j i (by omega) hi (by omega) e
  rw [hn]
  simp [ht]
 ·rw [if_neg ht]
  simp [ht]
structure Sp (w : World) (mb sb : Nat) (v : Value) (hs : List Sl) (L : List (List Tr)) (gs : Tr → Option Value) (wr : World) : Prop where
 map : MapF encT okT wr sb gs
 prs : Pr wr w.heap.size v hs L
 box : wr.heap[w.heap.size]? = some (.cells #[ptr mb] 29 (0, 0))
 bel : Below w.heap.size w wr
theorem Sp.below {w wr W1 : World} {mb sb : Nat} {v : Value} {hs : List Sl} {L : List (List Tr)} {gs : Tr → Option Value} (h : Sp w mb sb v hs L gs wr) (hb : Below wr.heap.size wr W1) : Sp w mb sb v hs L gs W1 :=
 ⟨h.map.below hb, h.prs.below hb, blk_then hb h.box, h.bel.trans (hb.mono h.bel.size)⟩
theorem Sp.set {w wr : World} {mb sb : Nat} {v : Value} {hs : List Sl} {L : List (List Tr)} {gs gs1 : Tr → Option Value} (h : Sp w mb sb v hs L gs wr) (hsb : w.heap.size < sb) {o : Obj} (hm : MapF encT okT (setBlock wr sb o) sb gs1) : Sp w mb sb v hs L gs1 (setBlock wr sb o) := by
 have hf : Fr (· = sb) wr (setBlock wr sb o) := ⟨rfl, rfl, rfl, by simp [setBlock], fun k _ hne => other_block hne o⟩
 exact ⟨hm, h.prs.fr h.map hf, (other_block (by omega) o).trans h.box, h.bel.trans (below_block (Nat.le_of_lt hsb) o)⟩
theorem int_keep {W W1 : World} {base : Nat} {v0 : Value} {xs : List Int} (h0 : (Kd.int .i64).R 3 W base anyB v0 xs) (hg : W.grownBy W1 v0.ownBlock) {k : Nat} {cs : Array Value} {e : TypeId} (hk : W.heap[k]? = some (.cells cs e (0, 0))) (he : e ≠ 3) : W1.heap[k]? = W.heap[k]? :=
 hg.block k (blk_lt hk) fun q => by
  obtain ⟨inner, hi⟩ := Kd.R_own h0
  obtain ⟨cells, hc⟩ := own_typed hi k q.symm
  rw [hk] at hc
  injection hc with hc
  injection hc with _ hc
  exact he hc
theorem Sp.grow {w wr W1 : World} {mb sb : Nat} {v v0 : Value} {hs : List Sl} {L : List (List Tr)} {gs : Tr → Option Value} {xs : List Int} (h : Sp w mb sb v hs L gs wr) (h0 : (Kd.int .i64).R 3 wr w.heap.size anyB v0 xs) (hg : wr.grownBy W1 v0.ownBlock) : Sp w mb sb v hs L gs W1 := by
 refine ⟨?_, ⟨sl_row.mpr ((sl_row.mp h.prs.row).move fun k hk => ?_), h.prs.len, fun i x p hx hp => tr_row.mpr ((tr_row.mp (h.prs.at_ i x p hx hp)).move fun k hk => ?_)⟩, (int_keep h0 hg h.box (by decide)).trans h.box, h.bel.trans (grown_below hg (fun q hq => Kd.R_base h0 q hq) h.bel.size)⟩
 ·obtain ⟨es, clock, hb, hF⟩ := h.map
  exact ⟨es, clock, row_keeps h0 hg hb (by intros; simp), hF⟩
 ·obtain ⟨-, -, cs, hc⟩ := (sl_row.mp h.prs.row).lt k hk
  exact int_keep h0 hg hc (by decide)
 ·obtain ⟨-, -, cs, hc⟩ := (tr_row.mp (h.prs.at_ i x p hx hp)).lt k hk
  exact int_keep h0 hg hc (by decide)
theorem tr_int {W W1 : World} {base : Nat} {v v0 : Value} {p : List Tr} {xs : List Int} (h : kTr.R 53 W base anyB v p) (h0 : (Kd.int .i64).R 3 W base anyB v0 xs) (hg : W.grownBy W1 v0.ownBlock) : kTr.R 53 W1 base anyB v p :=
 tr_row.mpr ((tr_row.mp h).move fun k hk => by
  obtain ⟨-, -, cs, hc⟩ := (tr_row.mp h).lt k hk
  exact int_keep h0 hg hc (by decide))
section
variable {w : World} {mb : Nat} {l lp : List S} {O F : List Tr} {M : Nat → Prop} {A : Option Addr} {c : Nat}
set_option maxRecDepth 100000 in
set_option maxHeartbeats 16000000 in
theorem spread_call (h : MeshAt w mb l O F M) (hC : Kd.C k71 w A lp.length lp) (hz : lp.length ≤ 1099511627776) (hw : ∀ x ∈ lp, wdS x) (hp : ∀ x ∈ lp, gp x = true) : Calls Tryz.prog 27 #[ptr mb, .slice A lp.length c] w fun e w' => ∃ v L, IsParts (Fixd F) O L ∧ e = .returned (.tuple #[v, .int .i64 0]) ∧ (Kd.int .i64).R 3 w' w.heap.size anyB v (O.map (spreadI l lp L)) ∧ Below w.heap.size w w' := by
 have hmm : ∀ t w, (Instr.makeMap t none).run Tryz.prog w = .ok (.map (some w.heap.size)) (w.alloc (.map #[] 0)) := fun _ _ => rfl
 have hmf : ∀ (fn : Fn) (first cap : Array Value) (w : World), (Instr.makeFunc fn first cap).run Tryz.prog w = .ok (.func fn first cap) w := fun _ _ _ _ => rfl
 obtain ⟨W1, hW1⟩ : ∃ W1, W1 = w.alloc (.cells #[ptr mb] 29) := ⟨_, rfl⟩
 have hB1 : Below w.heap.size w W1 := by rw [hW1]; exact below_alloc (Below.refl _ _) _
 have hb0 : W1.heap[w.heap.size]? = some (.cells #[ptr mb] 29 (0, 0)) := by rw [hW1]; exact blk_new _ _
 have hmy := cmay_call (mb := mb) (c := c) (Kd.C_below hC hB1) hz hw
 have e0 : (lp.any fun x => !gp x) = false := List.any_eq_false.mpr fun x hx => by rw [hp x hx]; decide
 rw [e0] at hmy
 have hpt := fun W (hb : Below W1.heap.size W1 W) => parts_call ((h.below hB1).below hb)
 have k0 := fun W (hb : Below W1.heap.size W1 W) => bcell hb ((blk_cell hb0 0).trans (show _ = some (ptr mb) from rfl))
 have k1 := k0 W1 (Below.refl _ _)
 have HB := Aside0.mk (And.intro hB1 hb0)
 have HM := Aside0.mk (And.intro (fun W (hb : Below w.heap.size w W) => h.below hb) (And.intro (fun W (hb : Below w.heap.size w W) => Kd.C_below hC hb) hp))
 have HK := Aside0.mk (And.intro (mesh_len h) hz)
 clear h hC hz hw hp hB1 hb0 e0
 go_enter Tryz.func27, Tryz.ntmps27
 go_upto_region 1 with (fail)
 rw [← hW1]
 clear hW1
 go_wp2_with (first
  | (go_at_call 42; (with_reducible refine hmy.mono ?_); rintro u_ w2 ⟨rfl, hb2⟩; have k5 := k0 _ hb2)
  | (go_at_call 20; (with_reducible refine (hpt _ hb2).mono ?_); rintro u_ w3 ⟨v3, hs3, L, rfl, hPr3, hL3, hB3⟩; obtain ⟨A3, c3, hv3⟩ := (sl_row.mp hPr3.row).any; subst hv3))
 have hw1s : w.heap.size < W1.heap.size := blk_lt HB.out.2
 have hle2 : W1.heap.size ≤ w2.heap.size := hb2.size
 have hle3 : w2.heap.size ≤ w3.heap.size := hB3.size
 have hBw3 : Below w.heap.size w w3 := (HB.out.1.trans (hb2.mono HB.out.1.size)).trans (hB3.mono (by omega))
 have HS : Aside0 (Sp w mb w3.heap.size (.slice A3 hs3.length c3) hs3 L (valP l lp (L.take 0)) (w3.alloc (.map #[] 0))) := ⟨MapF.made w3, (hPr3.rebase (by omega)).below (below_alloc (Below.refl _ _) _), blk_alloc (blk_then hB3 (blk_then hb2 HB.out.2)) _, hBw3.trans ((below_alloc (Below.refl _ _) _).mono hBw3.size)⟩
 have HSB : Aside0 (w.heap.size < w3.heap.size) := ⟨by omega⟩
 have HL := Aside0.mk hL3
 have HLN := Aside0.mk (And.intro hPr3.len (And.intro (parts_len hL3) (fun p hp => part_len hL3 (p := p) hp)))
 clear hPr3 hL3 hBw3 hw1s hle2 hle3 hB3 hb2 k0 k1 k5 hmy hpt hmm
 generalize w3.heap.size = sb at *
 go_loopw [32] (fun v32 wr => ∃ (i : Nat), v32 = .int .i64 i ∧ i ≤ L.length ∧ Aside0 (Sp w mb sb (.slice A3 hs3.length c3) hs3 L (valP l lp (L.take i)) wr)) (fun v32 _ => L.length - (intOf v32).toNat)
 case atStart => exact ⟨0, rfl, by omega, HS⟩
 case round =>
  clear HS
  obtain ⟨i, rfl, hi, HT⟩ := hrel
  by_cases hlt : i < L.length
  ·have hlx : i < hs3.length := by have := HLN.out.1; omega
   have d1 : decide (i < hs3.length) = true := decide_eq_true hlx
   have d2 : ((i < hs3.length) = True) := by simp; exact hlx
   have ii : IntKind.i64.wrap ((i : Int) + 1) = (i : Int) + 1 := wrapN (by have := HK.out.1; have := HLN.out.2.1; omega) (by have := HK.out.1; have := HLN.out.2.1; omega)
   obtain ⟨g, cap, hv, -⟩ := (sl_row.mp HT.out.prs.row).shape (by omega)
   injection hv with hv1 _ hv2
   subst hv1 hv2
   have hx := List.getElem?_eq_getElem hlx
   have hq := List.getElem?_eq_getElem hlt
   have hRi := HT.out.prs.at_ i _ _ hx hq
   have z0 := (sl_row.mp HT.out.prs.row).cell (sl_cell hx)
   obtain ⟨A4, c4, hv4⟩ := (tr_row.mp hRi).any
   rw [hv4] at z0 hRi
   have HQ := Aside0.mk (And.intro hx (And.intro hq hv4))
   have HGE : Aside0 (gsJ l lp (L.take i) L[i] L[i].length = valP l lp (L.take (i + 1))) := ⟨gs_end HL.out hlt⟩
   have HPL := Aside0.mk (HLN.out.2.2 L[i] (List.getElem_mem hlt))
   have HPO := Aside0.mk (fun t (ht : t ∈ L[i]) => (HL.out.part L[i] (List.getElem_mem hlt) t ht).1)
   generalize L[i] = p at *
   generalize hs3[i] = x at *
   obtain ⟨V1, hV1⟩ : ∃ V1, V1 = wr.alloc (.cells #[.slice A4 p.length c4] 23) := ⟨_, rfl⟩
   have hBV : Below wr.heap.size wr V1 := by rw [hV1]; exact below_alloc (Below.refl _ _) _
   have hb11 : V1.heap[wr.heap.size]? = some (.cells #[.slice A4 p.length c4] 23 (0, 0)) := by rw [hV1]; exact blk_new _ _
   have HTV := Aside0.mk (HT.out.below hBV)
   have hix := idxPS_call wr.heap.size w.heap.size (c := c) (HM.out.2.1 V1 HTV.out.bel) HK.out.2 (fun x => p.any fun t => liesB l t x) (fun x hx W hb => spreadc_call (v := .slice A4 p.length c4) (part := p) (base := w.heap.size) (HM.out.1 W (HTV.out.bel.trans (hb.mono HTV.out.bel.size))) (bcell hb (blk_cell hb11 0)) (Kd.R_below (Kd.R_below hRi hBV) hb) (bcell hb (blk_cell HTV.out.box 0)) (Nat.le_trans HPL.out HK.out.1) (HM.out.2.2 x hx))
   change Calls _ _ _ _ (fun e w' => e = .returned (.int .i64 (atP l lp p)) ∧ _) at hix
   have e11 := fun W (hb : Below V1.heap.size V1 W) => bcell hb ((blk_cell hb11 0).trans (show _ = some (Value.slice A4 p.length c4) from rfl))
   have HB11 : Aside0 (wr.heap.size < V1.heap.size) := ⟨blk_lt hb11⟩
   have HGS : Aside0 (gsJ l lp (L.take i) p 0 = valP l lp (L.take i)) := ⟨gs_start _ _ _ _⟩
   have HTS : Aside0 (∀ j (hj : j < p.length), upd (gsJ l lp (L.take i) p j) p[j] (some (.int .i64 (atP l lp p))) = gsJ l lp (L.take i) p (j + 1)) := ⟨fun j hj => gs_step hj⟩
   have HTV2 : Aside0 (Sp w mb sb (.slice (some ⟨g, 0, none⟩) hs3.length c3) hs3 L (gsJ l lp (L.take i) p 0) V1) := ⟨by rw [HGS.out]; exact HTV.out⟩
   rw [hV1] at hix
   generalize hat : atP l lp p = at9 at *
   clear hx hq hRi hb11 HT HGS HTV
   go_wp2_with (first
    | (go_at_call 55; (with_reducible refine hix.mono ?_); rintro u_ w5 ⟨rfl, hb5⟩; rw [← hV1] at hb5; have k5 := e11 _ hb5))
   have HT5 := Aside0.mk (HTV2.out.below hb5)
   generalize hB11 : wr.heap.size = B11 at *
   clear hix e11 hb5 HTV2 HB11 hB11 z0 d1 d2 hlx hV1 hBV
   go_loopw [41] (fun v41 wr => ∃ (j : Nat), v41 = .int .i64 j ∧ j ≤ p.length ∧ Aside0 (Sp w mb sb (.slice (some ⟨g, 0, none⟩) hs3.length c3) hs3 L (gsJ l lp (L.take i) p j) wr)) (fun v41 _ => p.length - (intOf v41).toNat)
   case atStart => exact ⟨0, rfl, by omega, HT5⟩
   case round =>
    clear HT5 k5
    obtain ⟨j, rfl, hj, HT⟩ := hrel
    by_cases hlj : j < p.length
    ·have d1 : decide (j < p.length) = true := decide_eq_true hlj
     have d2 : ((j < p.length) = True) := by simp; omega
     have ij : IntKind.i64.wrap ((j : Int) + 1) = (j : Int) + 1 := wrapN (by have := HK.out.1; have := HPL.out; omega) (by have := HK.out.1; have := HPL.out; omega)
     have hRi := HT.out.prs.at_ i _ _ HQ.out.1 HQ.out.2.1
     rw [HQ.out.2.2] at hRi
     obtain ⟨g4, cap4, hv, -⟩ := (tr_row.mp hRi).shape (by omega)
     injection hv with hv1 _ hv2
     have hOk : p[j]? = some p[j] := List.getElem?_eq_getElem hlj
     rw [hv1] at hRi ⊢
     have hc := fun q u (hu : (cT p[j])[q]? = some u) (hq : q < 3) => (tr_row.mp hRi).cell (j := j * 3 + q) ((at_cell hOk hq).trans hu)
     have HST := Aside0.mk (HTS.out j hlj)
     have hok := mesh_rng (HM.out.1 wr HT.out.bel) (HPO.out p[j] (List.getElem_mem hlj))
     generalize p[j] = t at *
     have z0 := (hc 0 _ rfl (by omega) : wr.cell? _ = some (Value.int .i64 t.1))
     have z1 := (hc 1 _ rfl (by omega) : wr.cell? _ = some (Value.int .i64 t.2.1))
     have z2 := (hc 2 _ rfl (by omega) : wr.cell? _ = some (Value.int .i64 t.2.2))
     simp only [Nat.add_zero] at z0
     have HTV := Aside0.mk (HT.out.below (W1 := wr.alloc (.cells #[.int .i64 t.1, .int .i64 t.2.1, .int .i64 t.2.2] 53)) (below_alloc (Below.refl _ _) _))
     obtain ⟨ob, hrun, hmf2⟩ := HTV.out.map.update kT Tryz.underlying50 (x := t) hok (.int .i64 at9)
     rw [HST.out] at hmf2
     have HTN := Aside0.mk (HTV.out.set HSB.out hmf2)
     unfold encT at hrun
     clear hc hOk hRi hok hv1 hv2 HT hmf2
     go_wp2
     go_roundw
     case rel => exact ⟨j + 1, by simp, by omega, HTN⟩
     case measure => simp [intOf]; omega
    ·have e : j = p.length := by omega
     subst e
     have HTN : Aside0 (Sp w mb sb (.slice (some ⟨g, 0, none⟩) hs3.length c3) hs3 L (valP l lp (L.take (i + 1))) wr) := ⟨by rw [← HGE.out]; exact HT.out⟩
     clear HT
     go_wp2
     go_roundw
     case rel => exact ⟨i + 1, by simp, by omega, HTN⟩
     case measure => simp [intOf]; omega
  ·have e : i = L.length := by omega
   subst e
   have d2 : ((L.length < hs3.length) = False) := by have := HLN.out.1; simp; omega
   have d1 : decide (L.length < hs3.length) = false := by have := HLN.out.1; simp; omega
   rw [List.take_length] at HT
   have htr := tris_call (HM.out.1 wr HT.out.bel)
   have k1 := (blk_cell HT.out.box 0).trans (show _ = some (ptr mb) from rfl)
   go_wp2_with (go_at_call 16; (with_reducible refine htr.mono ?_); rintro u_ w6 ⟨v6, rfl, hR6, hB6⟩; obtain ⟨A6, c6, hv6⟩ := (tr_row.mp hR6).any; subst hv6)
   have hR7 : kTr.R 53 w6 w.heap.size anyB (.slice A6 O.length c6) O := tr_row.mpr ((tr_row.mp hR6).rebase HT.out.bel.size)
   have HT6 := Aside0.mk (HT.out.below hB6)
   have HR6 : Aside0 (kTr.R 53 w6 w.heap.size anyB (.slice A6 O.length c6) O ∧ (Kd.int .i64).R 3 w6 w.heap.size anyB (.slice none 0 0) ((O.take 0).map (spreadI l lp L))) := ⟨hR7, Kd.R_nil _ _ _ _ _⟩
   clear htr k1 hR6 hR7 hB6 HT d1 d2
   go_loopw [53, 15] (fun v53 v15 wr => ∃ (k : Nat), v53 = .int .i64 k ∧ k ≤ O.length ∧ Aside0 (Sp w mb sb (.slice A3 hs3.length c3) hs3 L (valP l lp L) wr) ∧ Aside0 (kTr.R 53 wr w.heap.size anyB (.slice A6 O.length c6) O ∧ (Kd.int .i64).R 3 wr w.heap.size anyB v15 ((O.take k).map (spreadI l lp L)))) (fun v53 _ _ => O.length - (intOf v53).toNat)
   case atStart => exact ⟨0, rfl, by omega, HT6, HR6⟩
   case round =>
    clear HT6 HR6
    obtain ⟨k, rfl, hk, HT, HR⟩ := hrel
    by_cases hlk : k < O.length
    ·have d1 : decide (k < O.length) = true := decide_eq_true hlk
     have d2 : ((k < O.length) = True) := by simp; omega
     have ik : IntKind.i64.wrap ((k : Int) + 1) = (k : Int) + 1 := wrapN (by have := HK.out.1; omega) (by have := HK.out.1; omega)
     obtain ⟨g, cap, hv, -⟩ := (tr_row.mp HR.out.1).shape (by omega)
     injection hv with hv1 _ hv2
     subst hv1 hv2
     have hOk : O[k]? = some O[k] := List.getElem?_eq_getElem hlk
     have hc := fun q u (hu : (cT O[k])[q]? = some u) (hq : q < 3) => (tr_row.mp HR.out.1).cell (j := k * 3 + q) ((at_cell hOk hq).trans hu)
     have HNX : Aside0 ((O.take k).map (spreadI l lp L) ++ [spreadI l lp L O[k]] = (O.take (k + 1)).map (spreadI l lp L)) := ⟨by rw [List.take_succ_eq_append_getElem hlk, List.map_append]; rfl⟩
     have hok := mesh_rng (HM.out.1 wr HT.out.bel) (List.getElem_mem hlk)
     generalize O[k] = t at *
     have z0 := (hc 0 _ rfl (by omega) : wr.cell? _ = some (Value.int .i64 t.1))
     have z1 := (hc 1 _ rfl (by omega) : wr.cell? _ = some (Value.int .i64 t.2.1))
     have z2 := (hc 2 _ rfl (by omega) : wr.cell? _ = some (Value.int .i64 t.2.2))
     simp only [Nat.add_zero] at z0
     have HTV := Aside0.mk (HT.out.below (W1 := wr.alloc (.cells #[.int .i64 t.1, .int .i64 t.2.1, .int .i64 t.2.2] 53)) (below_alloc (Below.refl _ _) _))
     have hlk2 := HTV.out.map.lookup kT Tryz.underlying50 (zeroI _) (x := t) hok false
     rw [valP_getD] at hlk2
     generalize hsp : spreadI l lp L t = sp9 at *
     unfold encT at hlk2
     have hrow := HR.out.2
     have hz : (((O.take k).map (spreadI l lp L)).length + 1) * 8 ≤ 140737488355328 := by have := HK.out.1; simp; omega
     have HZ := Aside0.mk hz
     have hbs : w.heap.size ≤ (wr.alloc (.cells #[.int .i64 t.1, .int .i64 t.2.1, .int .i64 t.2.2] 53)).heap.size := HTV.out.bel.size
     have HBS := Aside0.mk hbs
     clear hc hOk hok hz hbs
     go_wp2_with (refine wp_add1 (flat_int .i64) rfl (.tmp 57) (.tmp 61) 59 3 (.int .i64 0) 8 rfl Tryz.underlying59 infoN rfl (by decide) (by decide) sp9 rfl (by simp [Act.eval]) rfl (Kd.R_alloc hrow _) HBS.out HZ.out ?_; intro v8 w8 hr8 hg8)
     rw [HNX.out] at hr8
     have HT8 : Aside0 (Sp w mb sb (.slice A3 hs3.length c3) hs3 L (valP l lp L) w8) := ⟨HTV.out.grow (Kd.R_alloc hrow _) hg8⟩
     have HR8 : Aside0 (kTr.R 53 w8 w.heap.size anyB (.slice (some ⟨g, 0, none⟩) O.length c6) O ∧ (Kd.int .i64).R 3 w8 w.heap.size anyB v8 ((O.take (k + 1)).map (spreadI l lp L))) := ⟨tr_int (Kd.R_alloc HR.out.1 _) (Kd.R_alloc hrow _) hg8, hr8⟩
     go_roundw
     case rel => exact ⟨k + 1, by simp, by omega, HT8, HR8⟩
     case measure => simp [intOf]; omega
    ·have e : k = O.length := by omega
     subst e
     rw [List.take_length] at HR
     have HF := Aside0.mk (And.intro HR.out.2 HT.out.bel)
     clear HR HT
     go_wp2
     go_ret2
     exact ⟨_, L, HL.out, rfl, HF.out.1, HF.out.2⟩
end
def sqL : List S := [⟨0, 0⟩, ⟨4611686018427387904, 0⟩, ⟨0, 4611686018427387904⟩, ⟨4611686018427387904, 4611686018427387904⟩]
def sqT : List Tr := [(0, 1, 2), (1, 3, 2)]
def sqE : List (Int × Int) := [(0, 1), (1, 3), (3, 2), (2, 0), (1, 2)]
def sqF (n : Nat) : List Tr := (sqE.take n).foldl (fun F p => fixF sqL F p.1 p.2 1) []
theorem sq_all : (allF sqL).2 = 0 := by kernel_rfl
theorem sq_of : ofE sqL [] sqT = (0, sqT) := by kernel_rfl
theorem sq_fix : ∀ p ∈ sqE, fixE sqL p.1 p.2 = 0 := by decide
theorem sq_one (m : Mesh sqT) {fx : Int → Int → Prop} (hf : ∀ a b, fx a b ↔ fx b a) (h : ¬ fx 1 2) : IsParts fx sqT [sqT] := by
 have h01 : Conn fx sqT (0, 1, 2) (1, 3, 2) := .step (.refl _) (by decide) ⟨1, 2, 0, 3, by decide, by decide, h⟩
 have h10 : Conn fx sqT (1, 3, 2) (0, 1, 2) := h01.symm hf (by decide)
 refine ⟨fun p hp => ?_, fun p hp => ?_, by simp, fun t ht => ⟨sqT, by simp, ht⟩, fun p hp s hs => ?_⟩
 ·rw [List.mem_singleton.mp hp]; exact m.up
 ·rw [List.mem_singleton.mp hp]; decide
 ·rw [List.mem_singleton.mp hp] at hs ⊢
  refine ⟨hs, fun t => ⟨fun ht => ?_, fun hc => hc.mem hs⟩⟩
  simp only [sqT, List.mem_cons, List.not_mem_nil, or_false] at hs ht
  rcases hs with rfl | rfl <;> rcases ht with rfl | rfl
  ·exact .refl _
  ·exact h01
  ·exact h10
  ·exact .refl _
theorem sq_two (m : Mesh sqT) {fx : Int → Int → Prop} (hf : ∀ a b, fx a b ↔ fx b a) (h : fx 1 2) : IsParts fx sqT [[(0, 1, 2)], [(1, 3, 2)]] := by
 have no : ∀ a b t, behind sqT b a = none → ¬ Beh sqT a b t := fun a b t hb ⟨d, h1, _⟩ => m.apx_none.mp hb d h1
 have n01 : ¬ Nb fx (0, 1, 2) (1, 3, 2) := fun q => by
  rcases (nb_iff m (by decide) (by decide)).mp q with ⟨q, -⟩ | ⟨-, q⟩ | ⟨q, -⟩
  ·exact no _ _ _ (by decide) q
  ·exact q h
  ·exact no _ _ _ (by decide) q
 have n10 : ¬ Nb fx (1, 3, 2) (0, 1, 2) := fun q => n01 (q.symm hf)
 have one : ∀ s t : Tr, s ∈ sqT → (∀ u ∈ sqT, Nb fx s u → u = s) → (t ∈ [s] ↔ Conn fx sqT s t) := fun s t _ hs =>
  ⟨fun q => by rw [List.mem_singleton.mp q]; exact .refl _, fun q => List.mem_singleton.mpr (Conn.closed (S := fun u => u = s) (fun u hu v hv hb => by rw [hu] at hb; exact hs v hv hb) q rfl)⟩
 refine ⟨fun p hp => ?_, fun p hp => ?_, ?_, fun t ht => ?_, fun p hp s hs => ?_⟩
 ·simp only [List.mem_cons, List.not_mem_nil, or_false] at hp
  rcases hp with rfl | rfl <;> (unfold Up; simp)
 ·simp only [List.mem_cons, List.not_mem_nil, or_false] at hp
  rcases hp with rfl | rfl <;> simp
 ·simp; decide
 ·simp only [sqT, List.mem_cons, List.not_mem_nil, or_false] at ht
  rcases ht with rfl | rfl
  ·exact ⟨[(0, 1, 2)], by simp, by simp⟩
  ·exact ⟨[(1, 3, 2)], by simp, by simp⟩
 ·simp only [List.mem_cons, List.not_mem_nil, or_false] at hp
  rcases hp with rfl | rfl
  ·rw [List.mem_singleton.mp hs]
   refine ⟨by decide, fun t => one _ t (by decide) fun u hu hb => ?_⟩
   simp only [sqT, List.mem_cons, List.not_mem_nil, or_false] at hu
   rcases hu with rfl | rfl
   ·rfl
   ·exact absurd hb n01
  ·rw [List.mem_singleton.mp hs]
   refine ⟨by decide, fun t => one _ t (by decide) fun u hu hb => ?_⟩
   simp only [sqT, List.mem_cons, List.not_mem_nil, or_false] at hu
   rcases hu with rfl | rfl
   ·exact absurd hb n10
   ·rfl
end Go.Proofs.YtaoichlepfiliaaGreatDoor.Msh
end
section
namespace Go.Proofs.YtaoichlepfiliaaGreatDoor.Kfl
open Go.RowKit Go.Sort Go.Proofs Go.Proofs.YtaoichlepfiliaaGreatDoorW.PrintWords Go.Proofs.YtaoichlepfiliaaGreatDoorW.PrintLast
theorem flat_f64 : Flat Kd.f64 (fun x => [Value.float .f64 x]) := ⟨fun _ => rfl, fun x v hv => by rw [List.mem_singleton.mp hv]; rfl, fun _ _ _ _ _ => Iff.rfl, fun _ _ _ => Iff.rfl⟩
theorem Flat.iso {α β : Type} {d : Kd α} {enc : α → List Value} (F : Flat d enc) (f : β → α) : Flat (Kd.iso d f) (fun x => enc (f x)) := ⟨fun _ => F.len _, fun _ => F.one _, fun _ _ _ _ _ => F.M _ _ _ _ _, fun _ _ _ => F.K _ _ _⟩
theorem blk_row {α : Type} {d : Kd α} {enc : α → List Value} (F : Flat d enc) {w : World} {g e : Nat} {cs : Array Value} {xs : List α} (hb : w.heap[g]? = some (.cells cs e (0, 0))) (hc : cs.toList = xs.flatMap enc) (hn : xs.length ≤ maxLen) : d.C w (some ⟨g, 0, none⟩) xs.length xs := by
 have hl : (xs.flatMap enc).length = xs.length * d.sz := flat_length F.len xs
 have hR : d.R e w 0 (fun _ => True) (.slice (some ⟨g, 0, none⟩) xs.length xs.length) xs := F.row.mpr ⟨fun _ _ => trivial, hl, .inr ⟨g, xs.length, cs, rfl, Nat.zero_le _, hb, Nat.le_refl _, hn, by rw [← hl, ← hc, Array.length_toList], by rw [hc, ← hl, List.take_length]⟩⟩
 obtain ⟨A, c, he, -, hC⟩ := Kd.R_reads hR
 injection he with he
 rw [he]
 exact hC
end Go.Proofs.YtaoichlepfiliaaGreatDoor.Kfl
namespace Go.Proofs.YtaoichlepfiliaaGreatDoor.Msh
open Go.RowKit Go.Proofs.YtaoichlepfiliaaGreatDoor.Adm Go.Proofs.YtaoichlepfiliaaGreatDoor.Kfl Go.Proofs.YtaoichlepfiliaaGreatDoor.E Go.Proofs.YtaoichlepfiliaaGreatDoor.R Go.Proofs.YtaoichlepfiliaaGreatDoorW.PrintWords Go.Proofs.YtaoichlepfiliaaGreatDoorW.PrintLast
theorem flatP : Flat k71 (fun x => [Value.float .f64 x.f0] ++ [Value.float .f64 x.f1]) := (flat_f64.pair flat_f64).iso fun x : S => (x.f0, x.f1)
end Go.Proofs.YtaoichlepfiliaaGreatDoor.Msh
end
