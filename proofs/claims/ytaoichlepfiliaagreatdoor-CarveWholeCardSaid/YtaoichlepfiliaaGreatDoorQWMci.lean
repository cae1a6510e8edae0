/- Lemmas of Mci. Conditions stand in each. -/
import Derived.Test.YtaoichlepfiliaaGreatDoorQWMce
import Derived.Test.YtaoichlepfiliaaGreatDoorQWCla
import Derived.BigQuiet
import Derived.Test.YtaoichlepfiliaaGreatDoorQWMdb
set_option linter.unusedSimpArgs false
set_option linter.unusedVariables false
section
namespace Go.Proofs.YtaoichlepfiliaaGreatDoor.Msh
open Go.RowKit Go.Sort Go.Proofs Go.Shelf Go.Proofs.YtaoichlepfiliaaGreatDoor.Mp Go.Proofs.YtaoichlepfiliaaGreatDoor.Adm Go.Proofs.YtaoichlepfiliaaGreatDoor.Kfl Go.Proofs.YtaoichlepfiliaaGreatDoorW.PrintWords Go.Proofs.YtaoichlepfiliaaGreatDoorW.PrintLast
def cmpS (x y : Tr) : Int := cmp3 (x.1, x.2.1, 0) (y.1, y.2.1, 0)
theorem cmpS_lt {x y : Tr} : cmpS x y < 0 ↔ lt2 x y := by
 unfold cmpS
 rw [cmp3_lt]
 unfold lt3 lt2
 simp only
 omega
theorem ltOf_cmpS (x y : Tr) : ltOf cmpS x y = decide (lt2 x y) := by
 unfold ltOf
 by_cases h : lt2 x y
 ·rw [decide_eq_true h, decide_eq_true (cmpS_lt.mpr h)]
 ·rw [decide_eq_false h, decide_eq_false (fun q => h (cmpS_lt.mp q))]
theorem swoS : SWO (ltOf cmpS) where
 irrefl x := by rw [ltOf_cmpS, decide_eq_false_iff_not]; unfold lt2; omega
 trans x y z h k := by
  rw [ltOf_cmpS, decide_eq_true_iff] at *
  unfold lt2 at *
  omega
 ntrans x y z h k := by
  rw [ltOf_cmpS, decide_eq_false_iff_not] at *
  unfold lt2 at *
  omega
theorem sortedS_eq {xs ys F : List Tr} (hp : ys.Perm xs) (hs : ys.Pairwise fun a b => (ltOf cmpS) b a = false) (hn : xs.Nodup) (hu : Up2 F) (h : ∀ t, t ∈ xs ↔ t ∈ F) : ys = F := by
 refine up2_eq ?_ hu fun t => by rw [hp.mem_iff, h]
 refine (hs.and (hp.nodup_iff.mpr hn)).imp_of_mem fun {a b} ha hb hab => ?_
 rw [ltOf_cmpS, decide_eq_false_iff_not] at hab
 have h1 := (h a).mp (hp.mem_iff.mp ha)
 have h2 := (h b).mp (hp.mem_iff.mp hb)
 by_cases q : lt2 a b
 ·exact q
 ·exfalso
  obtain ⟨i, hi, e1⟩ := List.mem_iff_getElem.mp h1
  obtain ⟨j, hj, e2⟩ := List.mem_iff_getElem.mp h2
  rcases Nat.lt_trichotomy i j with k | k | k
  ·have := List.pairwise_iff_getElem.mp hu i j hi hj k
   rw [e1, e2] at this
   exact q this
  ·subst k
   rw [e1] at e2
   exact hab.2 e2
  ·have := List.pairwise_iff_getElem.mp hu j i hj hi k
   rw [e1, e2] at this
   exact hab.1 this
def pickS (p : Int × Int) (v : Value) : Option Tr := match v with
 | .int .i64 c => some (p.1, p.2, c)
 | _ => none
theorem pickS_some {p : Int × Int} {v : Value} {t : Tr} (h : pickS p v = some t) : p = (t.1, t.2.1) ∧ v = .int .i64 t.2.2 := by
 unfold pickS at h
 split at h
 ·injection h with h
  subst h
  exact ⟨rfl, rfl⟩
 ·cases h
theorem pickS_iff {g : Int × Int → Option Value} {F : List Tr} (_ : Up2 F) (h : Fxs g F) (t : Tr) : (∃ k v, g k = some v ∧ pickS k v = some t) ↔ t ∈ F := by
 obtain ⟨a, b, c⟩ := t
 constructor
 ·rintro ⟨k, v, h1, h2⟩
  obtain ⟨rfl, rfl⟩ := pickS_some h2
  obtain ⟨z, ez, hz⟩ := (h a b _).mp h1
  injection ez with _ ez
  simp only at ez
  subst ez
  exact hz
 ·intro ht
  exact ⟨(a, b), _, (h a b _).mpr ⟨c, rfl, ht⟩, rfl⟩
theorem infoSh : (Tryz.prog.info? 78).map (fun i => (i.zero, i.size, i.bytes)) = some (some (.agg #[.int .i64 0, .int .i64 0, .int .i64 0]), 3, 24) := by kernel_rfl
set_option maxHeartbeats 1000000 in
theorem sortedSeg_call {w : World} {base : Nat} {v : Value} {xs : List Tr} (hR : kTr.R 78 w base anyB v xs) (hsz : xs.length < 4611686018427387904) :
 Calls Tryz.prog 50 #[v, .func (.func 51) #[] #[]] w fun r w' => r = .returned v ∧ ∃ ys : List Tr, ys.Perm xs ∧ ys.Pairwise (fun a b => (ltOf cmpS) b a = false) ∧ kTr.R 78 w' base anyB v ys ∧ w.grownBy w' v.ownBlock := by
 have hlt := Kd.R_lt hR
 obtain ⟨W1, hW1⟩ : ∃ W1, W1 = w.alloc (.cells #[.func (.func 51) #[] #[]] 95) := ⟨_, rfl⟩
 have hB : Below w.heap.size w W1 := by rw [hW1]; exact below_alloc (Below.refl _ _) _
 have hbox : W1.heap[w.heap.size]? = some (.cells #[.func (.func 51) #[] #[]] 95 (0, 0)) := by rw [hW1]; exact blk_new _ _
 have eg : ∀ args w, (callFunc 85 args).run Tryz.prog w = .ok (.enter 85 args) w := enters_of Tryz.func85 (by kernel_rfl) rfl
 have hmf : ∀ (fn : Fn) (first cap : Array Value) (w : World), (Instr.makeFunc fn first cap).run Tryz.prog w = .ok (.func fn first cap) w := fun _ _ _ _ => rfl
 have hS := flatT.sort Srs.sortL Tryz.isAgg78 Tryz.sizeOf78 cmpS swoS 85 #[.pointer (some ⟨w.heap.size, 0, none⟩)] eg (Kd.R_below hR hB) (fun x y W hW => by
  have hk : W.cell? ⟨w.heap.size, 0, none⟩ = some (.func (.func 51) #[] #[]) := by
   have := (hW w.heap.size (blk_lt hbox) (fun q => by have := hlt _ q.symm; omega)).trans hbox
   exact blk_cell this 0
  exact (sortSegs_call w.heap.size x y W hk).mono fun r W' ⟨he, hg⟩ => ⟨he, hg.out⟩) hsz
 change Calls Tryz.prog 84 _ _ _ at hS
 subst hW1
 go_enter Tryz.func50, Tryz.ntmps50
 go_wp2_with (go_at_call 84; (with_reducible refine hS.mono ?_); rintro u_ w2 ⟨rfl, ys, h1, h2, h3, h4⟩)
 go_ret
 exact ⟨rfl, ys, h1, h2, h3, grown_trans hB h4⟩
set_option maxRecDepth 100000 in
set_option maxHeartbeats 4000000 in
theorem fixes_call {w : World} {mb : Nat} {l : List S} {O F : List Tr} {M : Nat → Prop} (h : MeshAt w mb l O F M) :
 Calls Tryz.prog 19 #[ptr mb] w fun r w' => ∃ v, r = .returned v ∧ kTr.R 78 w' w.heap.size anyB v F ∧ Below w.heap.size w w' := by
 obtain ⟨A, c, ab, sb, fb, f, g, s, h⟩ := h
 have h0 : w.cell? ⟨mb, 4, none⟩ = some (.map (some fb)) := by rw [blk_cell h.blk]; rfl
 have hm := h.fixed
 have HX := Aside0.mk (And.intro h.fxs (And.intro h.up2 h.good.2))
 have HN := Aside0.mk h.frng
 clear h
 have HL : Aside0 (∀ xs left, Picked g left pickS xs → (xs.length + 1) * 24 ≤ 140737488355328) := ⟨fun xs left hP => by
  obtain ⟨ha, hM, hl⟩ := HX.out
  have h1 := pairs_size (n := l.length) (xs := xs.map fun t => (t.1, t.2.1)) (by
   unfold List.Nodup
   rw [List.pairwise_map]
   refine hP.nd.imp_of_mem fun {x y} hx hy hxy e => hxy ?_
   obtain ⟨k, v, k1, -, k2⟩ := (hP.mem x).mp hx
   obtain ⟨k', v', k1', -, k2'⟩ := (hP.mem y).mp hy
   obtain ⟨e1, e2⟩ := pickS_some k2
   obtain ⟨e1', e2'⟩ := pickS_some k2'
   rw [e1, e, ← e1', k1', e2'] at k1
   injection k1 with k1
   rw [e2] at k1
   injection k1 with _ k1
   injection e with q1 q2
   exact Prod.ext q1 (Prod.ext q2 k1.symm)) (fun p hp => by
   obtain ⟨t, ht, rfl⟩ := List.mem_map.mp hp
   obtain ⟨k, v, k1, -, k2⟩ := (hP.mem t).mp ht
   have := HN.out t ((pickS_iff hM ha t).mp ⟨k, v, k1, k2⟩)
   exact ⟨this.1, this.2⟩)
  rw [List.length_map] at h1
  have h2 := Nat.mul_le_mul hl hl
  omega⟩
 go_enter Tryz.func19, Tryz.ntmps19
 go_wp2_with (refine wp_range kE Tryz.underlying87 rfl (.tmp 11) rfl rfl hm ?_; intro W1 hR1 hB1)
 simp only [Act.put, List.setIfInBounds_toArray, List.set_cons_zero, List.set_cons_succ]
 go_loopw [3] (fun v wr => ∃ xs left, Rnd kTr 78 okE w fb g pickS v wr xs left) (fun _ wr => wr.rangeLeft fb w.heap.size)
 case atStart => exact ⟨[], _, ⟨Kd.R_nil _ _ _ _ _, hR1, Picked.start, hB1⟩⟩
 case round =>
  obtain ⟨xs, left, HR⟩ := hrel
  have hRg := HR.rng
  go_wp2_with (refine wp_next kE rfl (.tmp 12) rfl rfl hRg ?_ ?_)
  ·intro hd
   have hz := HL.out xs left HR.pk
   have hS := sortedSeg_call HR.row (by omega)
   have HD := Aside0.mk hd
   clear hd
   go_wp2_with (go_at_call 50; (with_reducible refine hS.mono ?_); rintro u_ w2 ⟨rfl, ys, k1, k2, k3, k4⟩)
   go_ret
   obtain ⟨ha, hM, -⟩ := HX.out
   have e := sortedS_eq k1 k2 HR.pk.nd hM (fun t => (HR.pk.done (fun x => HD.out x.1 x.2) t).trans (pickS_iff hM ha t))
   rw [e] at k3
   exact ⟨_, rfl, k3, HR.bel.trans (grown_below k4 (fun q hq => Kd.R_base HR.row q hq) HR.bel.size)⟩
  ·intro a b u W' hok hl hf hR2 hms hBl hoth hent
   obtain ⟨c0, rfl, -⟩ := (HX.out.1 a b u).mp hf
   have HE := Aside0.mk hent
   have hR3 : Rang encE okE W' fb w.heap.size g (fun y => left y ∧ y ≠ (a, b)) := hR2
   have hz := HL.out xs left HR.pk
   have hrow := HR.row_next hoth
   have hB2 := HR.bel.trans (hBl _ (Nat.le_refl _))
   have HP := Aside0.mk (And.intro hf (And.intro hl (And.intro hoth (And.intro (hBl _ (Nat.le_refl _)) hR3))))
   clear hent hf hl hok hoth hR2 hBl hR3
   unfold encE at HE
   have hG0 := Gr.refl W'
   go_wp2_with (first | (refine wp_entry rfl (.tmp 12) rfl rfl HE.out ?_) | (refine wp_add1 flatT rfl (.tmp 18) (.tmp 25) 24 78 (.agg #[.int .i64 0, .int .i64 0, .int .i64 0]) 24 rfl Tryz.underlying24 infoSh rfl (by decide) (by decide) (a, b, c0) rfl (by simp [Act.eval]) rfl (Kd.R_alloc hrow _) (by simpa using Nat.le_trans hB2.size (Nat.le_succ _)) hz ?_; intro v1 w1 hr1 hg1))
   have HH := HR.add HP.out.1 HP.out.2.1 (t := (a, b, c0)) rfl (fun k u hk => (pickS_some hk).1) HP.out.2.2.2.2 HP.out.2.2.2.1 (hG0.alloc _) (Kd.R_alloc hrow _) hr1 hg1
   have HH2 := Aside0.mk HH.2
   have HH1 := HH.1
   clear HH
   go_roundw
   case rel => exact ⟨_, _, HH1⟩
   case measure => rw [HH2.out]; exact hms
end Go.Proofs.YtaoichlepfiliaaGreatDoor.Msh
end
section
namespace Go.Proofs.YtaoichlepfiliaaGreatDoor.Msh
open Go Go.RowKit Go.Proofs.YtaoichlepfiliaaGreatDoor.Adm Go.Proofs.YtaoichlepfiliaaGreatDoorW.PrintWords Go.Proofs.YtaoichlepfiliaaGreatDoorW.PrintLast
structure Bw (w : World) where
 W : World
 h : Below w.heap.size w W
instance (w : World) : Nonempty (Bw w) := ⟨⟨w, Below.refl _ _⟩⟩
theorem wp_region_bw {P : Program} {id : Nat} {Q : Exit → Act → World → Prop} {a : Act} {w : World} {l : List Oper} (hm : P.follows .mixedOrders = true) (hB : Region.lexB .any l.toArray = true)
 (h : wpQuiet P l.toArray (fun w' => ∃ n : Bw w, w' = n.W) (fun a' => ∀ w', (∃ n : Bw w, w' = n.W) → Q .normal a' w') l a) : (Code.region id l.toArray true).wp P Q a w :=
 wp_region_quiet (C := fun w' => ∃ n : Bw w, w' = n.W) hm hB ⟨⟨_, pw_below_drewN (Below.refl _ _) 1⟩, rfl⟩ (by simpa using h)
theorem Bw.call {P : Program} {f : FuncId} {args : Array Value} {w : World} {v : Value} (n : Bw w) (h : ∀ W, Below w.heap.size w W → Calls P f args W fun e w' => e = .returned v ∧ Below W.heap.size W w') : Calls P f args n.W fun e w'' => e = .returned v ∧ ∃ m : Bw w, w'' = m.W :=
 (h n.W n.h).mono fun _ _ ⟨he, hb⟩ => ⟨he, ⟨_, n.h.trans (hb.mono n.h.size)⟩, rfl⟩
end Go.Proofs.YtaoichlepfiliaaGreatDoor.Msh
end
