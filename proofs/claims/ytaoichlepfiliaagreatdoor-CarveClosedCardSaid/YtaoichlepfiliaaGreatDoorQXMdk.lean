/- Lemmas of Mdk. Conditions stand in each. -/
import Derived.Test.YtaoichlepfiliaaGreatDoorQXMdb
import Derived.Test.YtaoichlepfiliaaGreatDoorQXMce
set_option linter.unusedSimpArgs false
set_option linter.unusedVariables false
namespace Go.Proofs.YtaoichlepfiliaaGreatDoor.Msh
open Go.RowKit Go.Sort Go.ChangeMaps Go.MapKept Go.Proofs.YtaoichlepfiliaaGreatDoor.Mp Go.Proofs.YtaoichlepfiliaaGreatDoor.Adm Go.Proofs.YtaoichlepfiliaaGreatDoor.Kfl Go.Proofs.YtaoichlepfiliaaGreatDoorW.PrintWords Go.Proofs.YtaoichlepfiliaaGreatDoorW.PrintLast
theorem LRow.any {t : Bool} {w : World} {base e size n : Nat} {v : Value} {xs : List Value} (h : LRow t w base e size v n xs) : ∃ A c, v = .slice A n c := by
 rcases h.2 with ⟨rfl, h0⟩ | ⟨g, cap, cur, rfl, -⟩
 ·rw [h0]; exact ⟨_, _, rfl⟩
 ·exact ⟨_, _, rfl⟩
theorem LRow.one {t : Bool} {W : World} {base : Nat} (y : Tr) (hb : base ≤ W.heap.size) : LRow t (W.alloc (.cells (cT y).toArray 53)) base 53 3 (.slice (some ⟨W.heap.size, 0, none⟩) 1 1) 1 (cT y) :=
 ⟨rfl, .inr ⟨_, 1, _, rfl, hb, blk_new _ _, Nat.le_refl _, by decide, Nat.le_refl _, rfl, fun _ => rfl⟩⟩
def PartPost (w : World) (mb sb : Nat) (O F : List Tr) (gs : Tr → Option Value) (t0 : Tr) (e : Ending) (w' : World) : Prop := ∃ v p gs', e = .returned v ∧ kTr.R 53 w' w.heap.size anyB v p ∧ Up p ∧ (∀ t, t ∈ p ↔ Conn (Fixd F) O t0 t) ∧ MapF encT okT w' sb gs' ∧ (∀ t v, gs' t = some v → v = .int .i64 1) ∧ (∀ t, isIn gs' t ↔ isIn gs t ∨ t ∈ p) ∧ Fr (· = sb) w w'
theorem up_sorted2 {xs ys : List Tr} (hp : ys.Perm xs) (hs : ys.Pairwise fun a b => (ltOf cmp3) b a = false) (hn : xs.Nodup) : Up ys := up_sorted hp hs hn
section
variable {w : World} {mb sb : Nat} {l : List S} {O F : List Tr} {M : Nat → Prop} {gs : Tr → Option Value} {t0 : Tr}
set_option maxRecDepth 100000 in
set_option maxHeartbeats 16000000 in
theorem part_call (h : MeshAt w mb l O F M) (hm : MapF encT okT w sb gs) (h1 : ∀ t v, gs t = some v → v = .int .i64 1) (hM : ¬ M sb) (ht : t0 ∈ O) (hn : ∀ t, Conn (Fixd F) O t0 t → ¬ isIn gs t) :
 Calls Tryz.prog 52 #[ptr mb, encT t0, .map (some sb)] w (PartPost w mb sb O F gs t0) := by
 have hok := mesh_rng h ht
 have hn0 : gs t0 = none := by
  have := hn t0 (.refl _)
  unfold isIn at this
  simpa using this
 have hsb := hm.lt
 have HK := Aside0.mk (And.intro (mesh_mesh h).1 (And.intro (mesh_mesh h).2 (And.intro (mesh_len h) (And.intro ht (And.intro hn (And.intro hM (And.intro hsb h.old)))))))
 obtain ⟨X1, hX1⟩ : ∃ X1, X1 = w.alloc (.cells #[.int .i64 t0.1, .int .i64 t0.2.1, .int .i64 t0.2.2] 53) := ⟨_, rfl⟩
 have hG1 : Gr w X1 := by rw [hX1]; exact (Gr.refl w).alloc _
 have hbx : X1.drew.heap[w.heap.size]? = some (.cells #[.int .i64 t0.1, .int .i64 t0.2.1, .int .i64 t0.2.2] 53 (0, 0)) := by rw [hX1]; exact blk_new _ _
 obtain ⟨st, W1, W2, e1, e2, e3, e4, hm2, hf2, hf1⟩ := bump (hm.below hG1.drew.below) hok hn0
 have s1 : W1.cell? ⟨w.heap.size, 0, none⟩ = some (.int .i64 t0.1) ∧ W1.cell? ⟨w.heap.size, 1, none⟩ = some (.int .i64 t0.2.1) ∧ W1.cell? ⟨w.heap.size, 2, none⟩ = some (.int .i64 t0.2.2) := by
  have q := (hf1.block _ (blk_lt hbx) (by omega)).trans hbx
  exact ⟨blk_cell q 0, blk_cell q 1, blk_cell q 2⟩
 have hbx2 : W2.heap[w.heap.size]? = some (.cells #[.int .i64 t0.1, .int .i64 t0.2.1, .int .i64 t0.2.2] 53 (0, 0)) := (hf2.block _ (blk_lt hbx) (by omega)).trans hbx
 have HS : Aside0 (Pt w mb sb l O F M (upd gs t0 (some (.int .i64 1))) (.slice (some ⟨W2.heap.size, 0, none⟩) 1 1) (.slice (some ⟨W2.heap.size + 1, 0, none⟩) 1 1) [t0] [t0] w.heap.size t0 ((W2.alloc (.cells (cT t0).toArray 53)).alloc (.cells (cT t0).toArray 53))) := ⟨by
  have hB : Below W2.heap.size W2 ((W2.alloc (.cells (cT t0).toArray 53)).alloc (.cells (cT t0).toArray 53)) := below_alloc (below_alloc (Below.refl _ _) _) _
  have hle : w.heap.size ≤ W2.heap.size := Nat.le_trans hG1.drew.below.size hf2.size
  have hlt := blk_lt hbx2
  have hfr : Fr (· = sb) w W2 := (Fr.of_below (M := fun k => k = sb) hG1.drew.below).trans hf2 fun _ _ q => q
  have l1 := LRow.one (t := true) (W := W2) (base := w.heap.size) t0 hle
  have l2 := LRow.one (t := false) (W := W2.alloc (.cells (cT t0).toArray 53)) (base := w.heap.size) t0 (by simp; omega)
  refine ⟨((h.below hG1.drew.below).fr hf2 fun k hk e => hM (e ▸ hk)).below hB, hm2.below hB, ⟨?_, ?_, ?_, ?_, ?_, ?_, ?_, Nat.le_refl _⟩, hfr.trans (Fr.of_below (M := fun k => k = sb) hB) fun _ _ q => q⟩
  ·simpa using l1.below (below_alloc (Below.refl _ _) _)
  ·simpa using l2
  ·exact (hB.block _ hlt).trans hbx2
  ·intro k hk hk2
   simp only [Value.ownBlock, Option.some.injEq] at hk hk2
   omega
  ·simp [Value.ownBlock]; omega
  ·simp [Value.ownBlock]; omega
  ·exact Nat.le_trans hle hB.size⟩
 have HO : Aside0 (POut (Fixd F) O (isIn gs) t0 [t0] [t0] (upd gs t0 (some (.int .i64 1)))) := ⟨POut.begin h1⟩
 have c1 := three_cells hbx
 have c2 := three_cells hbx2
 obtain ⟨c10, c11, c12, c13, c14, c15, c16⟩ := c1
 obtain ⟨c20, c21, c22, c23, c24, c25, c26⟩ := c2
 unfold encT at e1 e2 e3 ⊢
 clear h hm h1 hM ht hn hok hn0 hsb hm2 hf2 hf1 hbx hbx2 hG1
 have hw1 : IntKind.i64.wrap 1 = 1 := by decide
 go_enter Tryz.func52, Tryz.ntmps52
 go_upto_region 1 with (fail)
 rw [← hX1]
 clear hX1
 go_cut [] (fun wc => wc = W2)
 case first =>
  have s0 : X1.drew.cell? ⟨w.heap.size, 0, none⟩ = some (.int .i64 t0.1) ∧ X1.drew.cell? ⟨w.heap.size, 1, none⟩ = some (.int .i64 t0.2.1) ∧ X1.drew.cell? ⟨w.heap.size, 2, none⟩ = some (.int .i64 t0.2.2) := ⟨c10, c11, c12⟩
  have s2 : W2.cell? ⟨w.heap.size, 0, none⟩ = some (.int .i64 t0.1) ∧ W2.cell? ⟨w.heap.size, 1, none⟩ = some (.int .i64 t0.2.1) ∧ W2.cell? ⟨w.heap.size, 2, none⟩ = some (.int .i64 t0.2.2) := ⟨c20, c21, c22⟩
  go_region_held3 (fun W => W.cell? ⟨w.heap.size, 0, none⟩ = some (.int .i64 t0.1) ∧ W.cell? ⟨w.heap.size, 1, none⟩ = some (.int .i64 t0.2.1) ∧ W.cell? ⟨w.heap.size, 2, none⟩ = some (.int .i64 t0.2.2)) (first | exact s0 | exact s1 | exact s2) (fail)
  all_goals
   go_wp2
   go_meet
   case rel => rfl
 case rest =>
  clear e1 e2 e3 e4 c10 c11 c12 c13 c14 c15 c16 s1 hw1
  go_wp2
  go_loopw [7, 8] (fun v7 v8 wr => ∃ out todo gs1 B0 x0, Aside0 (Pt w mb sb l O F M gs1 v7 v8 out todo B0 x0 wr) ∧ Aside0 (POut (Fixd F) O (isIn gs) t0 out todo gs1)) (fun v7 v8 _ => 2 * (O.length - lenOf v7) + lenOf v8)
  case atStart => exact ⟨[t0], [t0], _, _, _, HS, HO⟩
  case round =>
   clear HS HO c20 c21 c22 c23 c24 c25 c26
   obtain ⟨out, todo, gs1, B0, x0, HP, HD⟩ := hrel
   rcases List.eq_nil_or_concat todo with rfl | ⟨todo1, x, rfl⟩
   ·obtain ⟨A, c, hv⟩ := HP.out.rows.todo.any
    subst hv
    have hsm := HD.out.small HK.out.2.2.2.1
    have hR : kTr.R 53 wr w.heap.size anyB u7 out := flatT.row.mpr ⟨fun _ _ => trivial, HP.out.rows.out.own⟩
    have eg : ∀ args w, (callFunc 87 args).run Tryz.prog w = .ok (.enter 87 args) w := enters_of Tryz.func87 (by kernel_rfl) rfl
    have hS := flatT.sort Srq.sortL Tryz.isAgg53 Tryz.sizeOf53 cmp3 swo3 87 #[] eg hR (fun x y W _ => (partcmp_call x y W).mono fun r W' ⟨he, hg⟩ => ⟨he, hg.out⟩) (by have := HK.out.2.2.1; omega)
    change Calls Tryz.prog 81 _ _ _ at hS
    clear eg
    go_wp2_with (go_at_call 81; (with_reducible refine hS.mono ?_); rintro u_ w2 ⟨rfl, ys, k1, k2, k3, k4⟩)
    go_ret
    have hB := grown_below k4 (fun q hq => (HP.out.rows.out.lt q hq).1) HP.out.rows.le
    refine ⟨_, ys, gs1, rfl, k3, up_sorted2 k1 k2 HD.out.dfs.nd, fun t => ?_, HP.out.map.move (hB.block sb HK.out.2.2.2.2.2.2.1), HD.out.one, fun t => ?_, ⟨hB.os.trans HP.out.fr.os, hB.tape.trans HP.out.fr.tape, hB.output.trans HP.out.fr.output, Nat.le_trans HP.out.fr.size hB.size, fun k hk hn => (hB.block k hk).trans (HP.out.fr.block k hk hn)⟩⟩
    ·rw [k1.mem_iff]; exact HD.out.dfs.all t
    ·rw [k1.mem_iff]; exact HD.out.dfs.seen_iff t
   ·rw [List.concat_eq_append] at HP HD
    have hlen : (todo1 ++ [x]).length = todo1.length + 1 := by simp
    obtain ⟨g, cap, hv, hcp⟩ := HP.out.rows.todo.shape (by rw [hlen]; omega)
    have hsm := HD.out.small HK.out.2.2.2.1
    have hT := HP.out.rows.todo
    rw [hv] at hT
    have hl7 := HP.out.rows.out.len
    have hl8 := HP.out.rows.todo.len
    have hci := fun j => last_cell todo1 x j
    have hcut2 := hT.cut (m := todo1.length) (by rw [hlen]; omega)
    rw [take_flat] at hcut2
    have z0 := hT.cell (hci 0)
    have z1 := hT.cell (hci 1)
    have z2 := hT.cell (hci 2)
    rw [hlen] at hv hcp hl8 hsm
    have hg : u8.ownBlock = some g := by rw [hv]; rfl
    have hPX : Pt w mb sb l O F M gs1 u7 (.slice (some ⟨g, 0, none⟩) todo1.length todo1.length) out todo1 wr.heap.size x (wr.alloc (.cells (cT x).toArray 53)) := by
     have h0 := HP.out.below (W1 := wr.alloc (.cells (cT x).toArray 53)) (below_alloc (Below.refl _ _) _)
     refine ⟨h0.mesh, h0.map, ⟨h0.rows.out, hcut2.below (below_alloc (Below.refl _ _) _), blk_new _ _, fun k hk hk2 => h0.rows.ne k hk (hg.trans (by simpa [Value.ownBlock] using hk2)), fun q => ?_, fun q => ?_, h0.rows.le, HP.out.rows.le⟩, h0.fr⟩
     ·have := (HP.out.rows.out.lt _ q).2.1; omega
     ·have := (HP.out.rows.todo.lt _ (hg.trans (by simpa [Value.ownBlock] using q))).2.1; omega
    have HX := Aside0.mk hPX
    have HI := Aside0.mk (POut.take HD.out)
    have hls := HD.out.small HK.out.2.2.2.1
    rw [hlen] at hls
    have hbig := HK.out.2.2.1
    subst hv
    have HL := Aside0.mk (And.intro hl7 (And.intro hl8 hls))
    clear hPX hT hcut2 hci hl7 hl8 hg HP HD
    generalize hm9 : todo1.length = m at *
    have HM9 := Aside0.mk hm9
    generalize hn9 : m + 1 = n at *
    have HN9 := Aside0.mk hn9
    have d1 : decide (0 < n) = true := decide_eq_true (by omega)
    have d4 : ((0 < n) = True) := by simp; omega
    have d5 : ((m < n) = True) := by simp; omega
    have i1 : IntKind.i64.wrap (((n : Nat) : Int) - 1) = ((m : Nat) : Int) := by rw [wrapN (by omega) (by omega)]; omega
    have d2 : decide (((m : Nat) : Int) < ((n : Nat) : Int)) = true := decide_eq_true (by omega)
    have d3 : decide (m < n) = true := decide_eq_true (by omega)
    have hrc := fun W => run_cut W ⟨g, 0, none⟩ n cap m (by omega)
    have e0 := z0.trans (show _ = some (Value.int .i64 x.1) from rfl)
    have e1 := z1.trans (show _ = some (Value.int .i64 x.2.1) from rfl)
    have e2 := z2.trans (show _ = some (Value.int .i64 x.2.2) from rfl)
    simp only [Nat.add_zero] at e0
    clear z0 z1 z2 hsm hls hlen hm9 hn9
    go_wp2
    obtain ⟨Y1, hY1⟩ : ∃ Y1, Y1 = wr.alloc (.cells #[.int .i64 x.1, .int .i64 x.2.1, .int .i64 x.2.2] 53) := ⟨_, rfl⟩
    have hX0 : Pt w mb sb l O F M gs1 u7 (.slice (some ⟨g, 0, none⟩) m m) out todo1 wr.heap.size x Y1 := by rw [hY1]; exact HX.out
    have HX1 := Aside0.mk hX0
    rw [← hY1]
    clear hY1 hX0 HX e0 e1 e2 d1 d2 d3 d4 d5 i1 hrc hcp
    have hgz := HX1.out.rows.todo.len
    generalize hB9 : wr.heap.size = B9 at *
    clear hB9
    go_loopw [45, 7, 8] (fun v45 v7 v8 wq => ∃ (k : Nat) (out2 todo2 : List Tr) (gs2 : Tr → Option Value), k ≤ 3 ∧ v45 = .int .i64 k ∧ Aside0 (Pt w mb sb l O F M gs2 v7 v8 out2 todo2 B9 x wq) ∧ Aside0 (PIn (Fixd F) O (isIn gs) t0 x k out.length m out2 todo2 gs2)) (fun v45 _ _ _ => 3 - (intOf v45).toNat)
    case atStart => exact ⟨0, out, todo1, gs1, by omega, rfl, HX1, HI⟩
    case round =>
     clear HX1 HI
     obtain ⟨k, out2, todo2, gs2, hk, rfl, HP, HI⟩ := hrel
     by_cases hk3 : k = 3
     ·subst hk3
      have HD := Aside0.mk (HI.out.close HK.out.1 HK.out.2.2.2.1)
      have hz := HI.out.small HK.out.2.2.2.1
      have hz1 := HI.out.cnt
      have hz2 := HI.out.more
      have hz3 := HP.out.rows.out.len
      have hz4 := HP.out.rows.todo.len
      have hme : 2 * (O.length - lenOf u7) + lenOf u8 < 2 * (O.length - out.length) + n := by have := HN9.out; omega
      have HME := Aside0.mk hme
      clear hz hz1 hz2 hz3 hz4 hme
      go_wp2
      go_roundw
      case rel => exact ⟨_, _, _, _, _, HP, HD⟩
      case measure => have h1 := HL.out.1; have h2 := HL.out.2.1; have h3 := HME.out; rw [← h1] at h3; rw [h2]; exact h3
     ·have hk2 : k < 3 := by omega
      obtain ⟨x0, x1⟩ := edge_cell HP.out.rows.box hk2
      have hxo := mesh_rng HP.out.mesh (HI.out.mem HK.out.2.2.2.1)
      obtain ⟨wa, wb⟩ := edge_ok (k := k) hxo
      have ha1 := fun W (hW : Gr wr W) => apex_call (HP.out.mesh.below hW.below) wb wa
      have hf1 := fun W (hW : Gr wr W) => fixed_call (HP.out.mesh.below hW.below) wa wb
      have HF : Aside0 ((fixO F (edgeN x k).1 (edgeN x k).2).isSome = true ↔ Fixd F (edgeN x k).1 (edgeN x k).2) := ⟨fixO_fixd HK.out.2.1⟩
      have HS1 : Aside0 (Fixd F (edgeN x k).1 (edgeN x k).2 → PIn (Fixd F) O (isIn gs) t0 x (k + 1) out.length m out2 todo2 gs2) := ⟨fun h => HI.out.fix h⟩
      have HS2 : Aside0 (behind O (edgeN x k).2 (edgeN x k).1 = none → PIn (Fixd F) O (isIn gs) t0 x (k + 1) out.length m out2 todo2 gs2) := ⟨fun h => HI.out.none_ HK.out.1 h⟩
      have HS3 : Aside0 (∀ c, behind O (edgeN x k).2 (edgeN x k).1 = some c → isIn gs2 (own ((edgeN x k).2, (edgeN x k).1, c)) → PIn (Fixd F) O (isIn gs) t0 x (k + 1) out.length m out2 todo2 gs2) := ⟨fun c h => HI.out.seen HK.out.1 HK.out.2.2.2.2.1 h⟩
      have HS4 : Aside0 (∀ c, behind O (edgeN x k).2 (edgeN x k).1 = some c → ¬ Fixd F (edgeN x k).1 (edgeN x k).2 → ∀ y, y = own ((edgeN x k).2, (edgeN x k).1, c) → gs2 y = none → okT y ∧ PIn (Fixd F) O (isIn gs) t0 x (k + 1) out.length m (out2 ++ [y]) (todo2 ++ [y]) (upd gs2 y (some (.int .i64 1)))) := ⟨fun c h hf y hy hs => ⟨by rw [hy]; exact mesh_rng HP.out.mesh (HK.out.1.apx.mp h), HI.out.push HK.out.1 hk2 HK.out.2.2.2.1 h hf hy hs⟩⟩
      have hz := HI.out.small HK.out.2.2.2.1
      have HZ := Aside0.mk (And.intro (Nat.le_trans hz.1 HK.out.2.2.1) (Nat.le_trans hz.2 HK.out.2.2.1))
      generalize (edgeN x k).1 = ea at *
      generalize (edgeN x k).2 = eb at *
      have HONE := Aside0.mk HI.out.one
      clear hz hxo wa wb HI
      by_cases hfx : (fixO F ea eb).isSome = true
      ·have HN := Aside0.mk (HS1.out (HF.out.mp hfx))
       rw [hfx] at hf1
       generalize (fixO F ea eb).getD 0 = g3 at *
       generalize (behind O eb ea).getD 0 = g1 at *
       generalize (behind O eb ea).isSome = g2 at *
       clear hfx HF HS1 HS2 HS3 HS4
       rcases (show k = 0 ∨ k = 1 ∨ k = 2 by omega) with rfl | rfl | rfl
       all_goals
        simp only [Nat.reduceAdd, Nat.reduceMod] at x1
        go_wp2
        go_quiet (fail)
        go_wp2_with (first | (go_at_call 22; (with_reducible refine (ha1 _ (Gr.drewN (Gr.refl _) _)).mono ?_); rintro u_ w5 ⟨rfl, rfl⟩) | (go_at_call 23; (with_reducible refine (hf1 _ (Gr.drewN (Gr.refl _) _)).mono ?_); rintro u_ w6 ⟨rfl, hg6⟩))
        have HG6 := Aside0.mk (((Gr.refl wr).drewN _).trans hg6)
        go_roundw
        case rel => exact (by first | exact ⟨0 + 1, _, _, _, by omega, rfl, ⟨HP.out.gr HG6.out⟩, HN⟩ | exact ⟨1 + 1, _, _, _, by omega, rfl, ⟨HP.out.gr HG6.out⟩, HN⟩ | exact ⟨2 + 1, _, _, _, by omega, rfl, ⟨HP.out.gr HG6.out⟩, HN⟩)
        case measure => simp [intOf]
      ·have hfn : ¬ Fixd F ea eb := fun h => hfx (HF.out.mpr h)
       have hff : (fixO F ea eb).isSome = false := by cases q : (fixO F ea eb).isSome with | true => exact absurd q hfx | false => rfl
       rw [hff] at hf1
       generalize (fixO F ea eb).getD 0 = g3 at *
       clear hfx hff HF HS1
       cases hbh : behind O eb ea with
       | none =>
        have HN := Aside0.mk (HS2.out hbh)
        rw [hbh] at ha1
        simp only [Option.getD_none, Option.isSome_none] at ha1
        clear hbh hfn HS2 HS3 HS4
        rcases (show k = 0 ∨ k = 1 ∨ k = 2 by omega) with rfl | rfl | rfl
        all_goals
         simp only [Nat.reduceAdd, Nat.reduceMod] at x1
         go_wp2
         go_quiet (fail)
         go_wp2_with (first | (go_at_call 22; (with_reducible refine (ha1 _ (Gr.drewN (Gr.refl _) _)).mono ?_); rintro u_ w5 ⟨rfl, rfl⟩) | (go_at_call 23; (with_reducible refine (hf1 _ (Gr.drewN (Gr.refl _) _)).mono ?_); rintro u_ w6 ⟨rfl, hg6⟩))
         have HG6 := Aside0.mk (((Gr.refl wr).drewN _).trans hg6)
         go_roundw
         case rel => exact (by first | exact ⟨0 + 1, _, _, _, by omega, rfl, ⟨HP.out.gr HG6.out⟩, HN⟩ | exact ⟨1 + 1, _, _, _, by omega, rfl, ⟨HP.out.gr HG6.out⟩, HN⟩ | exact ⟨2 + 1, _, _, _, by omega, rfl, ⟨HP.out.gr HG6.out⟩, HN⟩)
         case measure => simp [intOf]
       | some c =>
        rw [hbh] at ha1
        simp only [Option.getD_some, Option.isSome_some] at ha1
        have hco : ∀ W, Calls Tryz.prog 86 #[.agg #[.int .i64 eb, .int .i64 ea, .int .i64 c]] W fun e w' => e = .returned (.agg #[.int .i64 (own (eb, ea, c)).1, .int .i64 (own (eb, ea, c)).2.1, .int .i64 (own (eb, ea, c)).2.2]) ∧ Gr W w' := fun W => cown_call (eb, ea, c) W
        have HN3 := Aside0.mk (HS3.out c hbh)
        have HN4 := Aside0.mk (HS4.out c hbh hfn)
        have hyok : okT (own (eb, ea, c)) := mesh_rng HP.out.mesh (HK.out.1.apx.mp hbh)
        clear hbh hfn HS2 HS3 HS4
        generalize hyy : own (eb, ea, c) = y at *
        have HYO := Aside0.mk hyok
        clear hyok
        have HYY := Aside0.mk hyy
        clear hyy
        have HLK : Aside0 (∀ W, Gr wr W → (Instr.lookup 50 (.map (some sb)) (.agg #[.int .i64 y.1, .int .i64 y.2.1, .int .i64 y.2.2]) false).run Tryz.prog W = .ok ((gs2 y).getD (.int .i64 0)) W) := ⟨fun W hW =>
         (HP.out.map.below hW.below).lookup kT Tryz.underlying50 (zeroI W) (x := y) HYO.out false⟩
        cases hgy : gs2 y with
        | some v =>
         have hv1 := HONE.out y v hgy
         rw [hgy] at HLK
         simp only [Option.getD_some] at HLK
         subst hv1
         have HN := Aside0.mk (HN3.out (by unfold isIn; rw [hgy]; rfl))
         clear hgy HN3 HN4 HONE
         rcases (show k = 0 ∨ k = 1 ∨ k = 2 by omega) with rfl | rfl | rfl
         all_goals
          simp only [Nat.reduceAdd, Nat.reduceMod] at x1
          go_wp2
          go_quiet (fail)
          go_wp2_with (first | (go_at_call 22; (with_reducible refine (ha1 _ (Gr.drewN (Gr.refl _) _)).mono ?_); rintro u_ w5 ⟨rfl, rfl⟩) | (go_at_call 23; (with_reducible refine (hf1 _ (Gr.drewN (Gr.refl _) _)).mono ?_); rintro u_ w6 ⟨rfl, hg6⟩) | (go_at_call 86; (with_reducible refine (hco _).mono ?_); rintro u_ w7 ⟨rfl, hg7⟩; have hg8 := ((((Gr.refl wr).drewN _).trans hg6).trans hg7).alloc (.cells #[.int .i64 y.1, .int .i64 y.2.1, .int .i64 y.2.2] 53); have hlk7 := HLK.out _ hg8))
          have HG6 := Aside0.mk hg8
          go_roundw
          case rel => exact (by first | exact ⟨0 + 1, _, _, _, by omega, rfl, ⟨HP.out.gr HG6.out⟩, HN⟩ | exact ⟨1 + 1, _, _, _, by omega, rfl, ⟨HP.out.gr HG6.out⟩, HN⟩ | exact ⟨2 + 1, _, _, _, by omega, rfl, ⟨HP.out.gr HG6.out⟩, HN⟩)
          case measure => simp [intOf]
        | none =>
         rw [hgy] at HLK
         simp only [Option.getD_none] at HLK
         have HN := Aside0.mk (HN4.out y rfl hgy)
         have HGY := Aside0.mk hgy
         have hw1 : IntKind.i64.wrap 1 = 1 := by decide
         have hvo : ∀ q, u7.ownBlock = some q → q < wr.heap.size := fun q hq => (HP.out.rows.out.lt q hq).2.1
         have hvt : ∀ q, u8.ownBlock = some q → q < wr.heap.size := fun q hq => (HP.out.rows.todo.lt q hq).2.1
         have HV := Aside0.mk (And.intro hvo hvt)
         clear hgy HN3 HN4 HONE hvo hvt
         rcases (show k = 0 ∨ k = 1 ∨ k = 2 by omega) with rfl | rfl | rfl
         all_goals
          simp only [Nat.reduceAdd, Nat.reduceMod] at x1
          go_wp2
          go_quiet (fail)
          go_wp2_with (first | (go_at_call 22; (with_reducible refine (ha1 _ (Gr.drewN (Gr.refl _) _)).mono ?_); rintro u_ w5 ⟨rfl, rfl⟩) | (go_at_call 23; (with_reducible refine (hf1 _ (Gr.drewN (Gr.refl _) _)).mono ?_); rintro u_ w6 ⟨rfl, hg6⟩) | (go_at_call 86; (with_reducible refine (hco _).mono ?_); rintro u_ w7 ⟨rfl, hg7⟩; have hg8 := ((((Gr.refl wr).drewN _).trans hg6).trans hg7).alloc (.cells #[.int .i64 y.1, .int .i64 y.2.1, .int .i64 y.2.2] 53); have hlk7 := HLK.out _ hg8; have hby := blk_new w7 (.cells #[.int .i64 y.1, .int .i64 y.2.1, .int .i64 y.2.2] 53); have hsz7 := ((((Gr.refl wr).drewN _).trans hg6).trans hg7).below.size))
          obtain ⟨V, hV⟩ : ∃ V, V = w7.alloc (.cells #[.int .i64 y.1, .int .i64 y.2.1, .int .i64 y.2.2] 53) := ⟨_, rfl⟩
          rw [← hV] at hg8 hby ⊢
          generalize w7.heap.size = B7 at *
          have HPV := HP.out.gr hg8.drew
          obtain ⟨st2, V1, V2, e1, e2, e3, e4, hm2, hf2, hf1'⟩ := bump HPV.map HN.out.1 HGY.out
          unfold encT at e1 e2 e3
          have hbyd : V.drew.heap[B7]? = _ := hby
          have hn7 : B7 ≠ sb := by have := HK.out.2.2.2.2.2.2.1; have := HP.out.fr.size; omega
          have hby1 := (hf1'.block B7 (blk_lt hbyd) hn7).trans hbyd
          have hby2 := (hf2.block B7 (blk_lt hbyd) hn7).trans hbyd
          have s0 : V.drew.cell? ⟨B7, 0, none⟩ = some (.int .i64 y.1) ∧ V.drew.cell? ⟨B7, 1, none⟩ = some (.int .i64 y.2.1) ∧ V.drew.cell? ⟨B7, 2, none⟩ = some (.int .i64 y.2.2) := ⟨blk_cell hbyd 0, blk_cell hbyd 1, blk_cell hbyd 2⟩
          have s1 : V1.cell? ⟨B7, 0, none⟩ = some (.int .i64 y.1) ∧ V1.cell? ⟨B7, 1, none⟩ = some (.int .i64 y.2.1) ∧ V1.cell? ⟨B7, 2, none⟩ = some (.int .i64 y.2.2) := ⟨blk_cell hby1 0, blk_cell hby1 1, blk_cell hby1 2⟩
          have s2 : V2.cell? ⟨B7, 0, none⟩ = some (.int .i64 y.1) ∧ V2.cell? ⟨B7, 1, none⟩ = some (.int .i64 y.2.1) ∧ V2.cell? ⟨B7, 2, none⟩ = some (.int .i64 y.2.2) := ⟨blk_cell hby2 0, blk_cell hby2 1, blk_cell hby2 2⟩
          have HP2 := Aside0.mk (HPV.turn HK.out.2.2.2.2.2.1 HK.out.2.2.2.2.2.2.1 hm2 hf2)
          have HSZ : Aside0 (wr.heap.size ≤ B7 ∧ B7 < V2.heap.size) := ⟨by omega, blk_lt hby2⟩
          clear hm2 hf2 hf1' HPV hby hbyd hby1 hg8 hg6 hg7 hV hlk7
          go_cut [] (fun wc => wc = V2)
          case first =>
           go_region_held3 (fun W => W.cell? ⟨B7, 0, none⟩ = some (.int .i64 y.1) ∧ W.cell? ⟨B7, 1, none⟩ = some (.int .i64 y.2.1) ∧ W.cell? ⟨B7, 2, none⟩ = some (.int .i64 y.2.2)) (first | exact s0 | exact s1 | exact s2) (fail)
           all_goals
            go_wp2
            go_meet
            case rel => rfl
          case rest =>
           subst hcut
           clear s0 s1 s2 e1 e2 e3 e4
           have HBY := Aside0.mk hby2
           have HL0 : Aside0 (∀ W, Below wc.heap.size wc W → W.cell? ⟨B7, 0, none⟩ = some (.int .i64 y.1) ∧ W.cell? ⟨B7, 1, none⟩ = some (.int .i64 y.2.1) ∧ W.cell? ⟨B7, 2, none⟩ = some (.int .i64 y.2.2)) := ⟨fun W hb => by have := blk_then hb HBY.out; exact ⟨blk_cell this 0, blk_cell this 1, blk_cell this 2⟩⟩
           have HbA : Aside0 ((wc.alloc (.cells #[.int .i64 y.1, .int .i64 y.2.1, .int .i64 y.2.2] 53)).drew.heap[wc.heap.size]? = some (.cells #[.int .i64 y.1, .int .i64 y.2.1, .int .i64 y.2.2] 53 (0, 0))) := ⟨blk_new _ _⟩
           have HbC : Aside0 (((wc.alloc (.cells #[.int .i64 y.1, .int .i64 y.2.1, .int .i64 y.2.2] 53)).alloc (.cells #[.int .i64 y.1, .int .i64 y.2.1, .int .i64 y.2.2] 53)).drew.heap[wc.heap.size]? = some (.cells #[.int .i64 y.1, .int .i64 y.2.1, .int .i64 y.2.2] 53 (0, 0))) := ⟨blk_alloc (blk_new _ _) _⟩
           have HbB : Aside0 (((wc.alloc (.cells #[.int .i64 y.1, .int .i64 y.2.1, .int .i64 y.2.2] 53)).alloc (.cells #[.int .i64 y.1, .int .i64 y.2.1, .int .i64 y.2.2] 53)).drew.heap[wc.heap.size + 1]? = some (.cells #[.int .i64 y.1, .int .i64 y.2.1, .int .i64 y.2.2] 53 (0, 0))) := ⟨blk_new2 wc _ _⟩
           have HNE : Aside0 (u7.ownBlock ≠ some B7 ∧ u8.ownBlock ≠ some B7 ∧ u7.ownBlock ≠ some wc.heap.size ∧ u7.ownBlock ≠ some (wc.heap.size + 1)) := ⟨⟨fun q => by have := HV.out.1 _ q; have := HSZ.out; omega, fun q => by have := HV.out.2 _ q; have := HSZ.out; omega, fun q => by have := HV.out.1 _ q; have := HSZ.out; omega, fun q => by have := HV.out.1 _ q; have := HSZ.out; omega⟩⟩
           clear hby2
           go_upto_region 17 with (fail)
           go_region_held3 (fun W => W.cell? ⟨B7, 0, none⟩ = some (.int .i64 y.1) ∧ W.cell? ⟨B7, 1, none⟩ = some (.int .i64 y.2.1) ∧ W.cell? ⟨B7, 2, none⟩ = some (.int .i64 y.2.2))
            (first | (with_reducible refine heldB HL0 ?_; (repeat (first | assumption | exact Below.refl _ _ | apply below_drew1 | apply below_alloc | apply pw_below_drewN)); done) | (with_reducible refine heldB HL1 ?_; (repeat (first | assumption | exact Below.refl _ _ | apply below_drew1 | apply below_alloc | apply pw_below_drewN)); done) | (with_reducible refine heldB HL2 ?_; (repeat (first | assumption | exact Below.refl _ _ | apply below_drew1 | apply below_alloc | apply pw_below_drewN)); done))
            (first
             | (refine step_out (vo := u7) (vt := u8) (out := out2) (todo := todo2) (B := B9) (x := x) (base := w.heap.size) y rfl (.tmp 90) (.tmp 92) rfl rfl rfl ?aT ?aB HZ.out.1 ?_
                (case aT => (repeat (first | exact HP2.out.rows | apply Two.drew | apply Two.alloc)))
                (case aB => first | exact HbA.out | exact HbC.out | exact HbB.out)
                intro v1 w1 hT1 hB1 hk1
                have HT1 := Aside0.mk hT1
                have HB1 := Aside0.mk (below_then2 (wc := wc) (by (with_reducible (repeat (first | exact Below.refl _ _ | apply below_drew1 | apply below_alloc | apply pw_below_drewN)))) HP2.out.rows.le hB1)
                have q7 := hk1 B7 _ (blk_then (wc := wc) (by (with_reducible (repeat (first | exact Below.refl _ _ | apply below_drew1 | apply below_alloc | apply pw_below_drewN)))) HBY.out) HNE.out.1
                have HQ7 := Aside0.mk q7
                have HL1 : Aside0 (∀ W, Below w1.heap.size w1 W → W.cell? ⟨B7, 0, none⟩ = some (.int .i64 y.1) ∧ W.cell? ⟨B7, 1, none⟩ = some (.int .i64 y.2.1) ∧ W.cell? ⟨B7, 2, none⟩ = some (.int .i64 y.2.2)) := ⟨fun W hb => by have := blk_then hb HQ7.out; exact ⟨blk_cell this 0, blk_cell this 1, blk_cell this 2⟩⟩
                (try have HbC1 := Aside0.mk (hk1 _ _ HbC.out HNE.out.2.2.1))
                (try have HbB1 := Aside0.mk (hk1 _ _ HbB.out HNE.out.2.2.2))
                clear hT1 hB1 hk1 q7)
             | (refine step_todo (vo := v1) (vt := u8) (out := out2 ++ [y]) (todo := todo2) (B := B9) (x := x) (base := w.heap.size) y rfl (.tmp 94) (.tmp 96) rfl rfl rfl ?aT ?aB HZ.out.2 ?_
                (case aT => (repeat (first | exact HT1.out | apply Two.drew | apply Two.alloc)))
                (case aB => first | exact HbB1.out | exact HbC1.out | exact blk_new _ _)
                intro v2 w2 hT2 hB2 hk2
                have HT2 := Aside0.mk hT2
                have HB2 := Aside0.mk (below_then2 (wc := w1) (by (with_reducible (repeat (first | exact Below.refl _ _ | apply below_drew1 | apply below_alloc | apply pw_below_drewN)))) HT1.out.le hB2)
                have HQ8 := Aside0.mk (hk2 B7 _ (blk_then (wc := w1) (by (with_reducible (repeat (first | exact Below.refl _ _ | apply below_drew1 | apply below_alloc | apply pw_below_drewN)))) HQ7.out) HNE.out.2.1)
                have HL2 : Aside0 (∀ W, Below w2.heap.size w2 W → W.cell? ⟨B7, 0, none⟩ = some (.int .i64 y.1) ∧ W.cell? ⟨B7, 1, none⟩ = some (.int .i64 y.2.1) ∧ W.cell? ⟨B7, 2, none⟩ = some (.int .i64 y.2.2)) := ⟨fun W hb => by have := blk_then hb HQ8.out; exact ⟨blk_cell this 0, blk_cell this 1, blk_cell this 2⟩⟩
                clear hT2 hB2 hk2))
           all_goals
            go_wp2
            have HPF := Aside0.mk (HP2.out.grow HK.out.2.2.2.2.2.2.1 HK.out.2.2.2.2.2.2.2 HT2.out (HB1.out.trans HB2.out))
            have HNF := Aside0.mk HN.out.2
            go_roundw
            case rel => exact (by first | exact ⟨0 + 1, _, _, _, by omega, rfl, HPF, HNF⟩ | exact ⟨1 + 1, _, _, _, by omega, rfl, HPF, HNF⟩ | exact ⟨2 + 1, _, _, _, by omega, rfl, HPF, HNF⟩)
            case measure => simp [intOf]
end
end Go.Proofs.YtaoichlepfiliaaGreatDoor.Msh
