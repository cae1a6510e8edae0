/- What the proof needs of Mdm: only what is used is left (wip/tools/prune.py). Conditions stand in each sentence. -/
import Derived.Test.YtjiolfpahollkaaGreatDoorQNMds
set_option linter.unusedVariables false
set_option linter.unusedSimpArgs false
namespace Go.Proofs.YtjiolfpahollkaaGreatDoor.Adm
end Go.Proofs.YtjiolfpahollkaaGreatDoor.Adm
namespace Go.Proofs.YtjiolfpahollkaaGreatDoor.Kfl
end Go.Proofs.YtjiolfpahollkaaGreatDoor.Kfl
namespace Go.Proofs.YtjiolfpahollkaaGreatDoor.Mp
end Go.Proofs.YtjiolfpahollkaaGreatDoor.Mp
namespace Go.Proofs.YtjiolfpahollkaaGreatDoorW.PrintLast
end Go.Proofs.YtjiolfpahollkaaGreatDoorW.PrintLast
namespace Go.Proofs.YtjiolfpahollkaaGreatDoorW.PrintMore
end Go.Proofs.YtjiolfpahollkaaGreatDoorW.PrintMore
namespace Go.Proofs.YtjiolfpahollkaaGreatDoorW.PrintWords
end Go.Proofs.YtjiolfpahollkaaGreatDoorW.PrintWords
namespace Go.Proofs.YtjiolfpahollkaaGreatDoor.Msh
open Go.RowKit Go.Sort Go.ChangeMaps Go.MapKept Go.Proofs.YtjiolfpahollkaaGreatDoor.Mp Go.Proofs.YtjiolfpahollkaaGreatDoor.Adm Go.Proofs.YtjiolfpahollkaaGreatDoor.Kfl Go.Proofs.YtjiolfpahollkaaGreatDoorW.PrintWords Go.Proofs.YtjiolfpahollkaaGreatDoorW.PrintLast Go.Proofs.YtjiolfpahollkaaGreatDoorW.PrintMore
theorem at_cell {xs : List Tr} {k : Nat} {x : Tr} (h : xs[k]? = some x) {j : Nat} (hj : j < 3) : (xs.flatMap cT)[k * 3 + j]? = (cT x)[j]? := by
  have h0 := flat_take (enc := cT) (k := 3) (fun _ => rfl) xs k x h
  have h1 : (((xs.flatMap cT).drop (k * 3)).take 3)[j]? = (cT x)[j]? := by rw [h0]
  rw [List.getElem?_take_of_lt hj, List.getElem?_drop] at h1
  exact h1
structure PSt (w : World) (mb : Nat) (l : List S) (O F : List Tr) (M : Nat → Prop) (vO : Value) (gs : Tr → Option Value) (v : Value) (hs : List Sl) (L : List (List Tr)) (wr : World) : Prop where
  mesh : MeshAt wr mb l O F M
  map : MapF encT okT wr w.heap.size gs
  orow : kTr.R 53 wr w.heap.size anyB vO O
  prs : Pr wr w.heap.size v hs L
  bel : Below w.heap.size w wr
section
variable {w W W1 : World} {mb : Nat} {l : List S} {O F : List Tr} {M : Nat → Prop} {vO v v1 : Value} {gs gs1 : Tr → Option Value} {hs : List Sl} {L : List (List Tr)} {p : List Tr}
theorem PSt.below (h : PSt w mb l O F M vO gs v hs L W) (hb : Below W.heap.size W W1) : PSt w mb l O F M vO gs v hs L W1 :=
  ⟨h.mesh.below hb, h.map.below hb, Kd.R_below h.orow hb, h.prs.below hb, h.bel.trans (hb.mono h.bel.size)⟩
theorem PSt.turn (h : PSt w mb l O F M vO gs v hs L W) (hM : ∀ k, M k → k < w.heap.size) (hm : MapF encT okT W1 w.heap.size gs1) (hf : Fr (· = w.heap.size) W W1) : PSt w mb l O F M vO gs1 v hs L W1 :=
  ⟨h.mesh.fr hf fun k hk e => by have := hM k hk; omega, hm, tr_fr h.orow h.map hf, h.prs.fr h.map hf, ⟨hf.os.trans h.bel.os, hf.tape.trans h.bel.tape, hf.output.trans h.bel.output, Nat.le_trans h.bel.size hf.size, fun k hk => (hf.block k (Nat.lt_of_lt_of_le hk h.bel.size) (by omega)).trans (h.bel.block k hk)⟩⟩
theorem PSt.add (h : PSt w mb l O F M vO gs v hs L W) (hM : ∀ k, M k → k < w.heap.size) {x : Sl} (hp : kTr.R 53 W w.heap.size anyB (encSl x) p) (hr : kSl.R 23 W1 w.heap.size anyB v1 (hs ++ [x])) (hg : W.grownBy W1 v.ownBlock) : PSt w mb l O F M vO gs v1 (hs ++ [x]) (L ++ [p]) W1 := by
  have hB : Below w.heap.size W W1 := grown_below hg (fun q hq => Kd.R_base h.prs.row q hq) h.bel.size
  refine ⟨h.mesh.move hg.size fun k hk => hB.block k (hM k hk), ?_, tr_grow h.orow h.prs.row hg, h.prs.add hp hr hg, h.bel.trans hB⟩
  obtain ⟨es, clock, hb, hF⟩ := h.map
  exact ⟨es, clock, row_keeps h.prs.row hg hb (by intros; simp), hF⟩
set_option maxRecDepth 100000 in
set_option maxHeartbeats 16000000 in
theorem parts_call (h : MeshAt w mb l O F M) : Calls Tryz.prog 27 #[ptr mb] w fun e w' => ∃ v hs L, e = .returned (.tuple #[v, .int .i64 0]) ∧ Pr w' w.heap.size v hs L ∧ IsParts (Fixd F) O L ∧ Below w.heap.size w w' := by
  have hmm : ∀ t w, (Instr.makeMap t none).run Tryz.prog w = .ok (.map (some w.heap.size)) (w.alloc (.map #[] 0)) := fun _ _ => rfl
  have HK := Aside0.mk (And.intro (mesh_mesh h).1 (And.intro (mesh_mesh h).2 (And.intro (mesh_len h) h.old)))
  have hB0 : Below w.heap.size w (w.alloc (.map #[] 0)) := below_alloc (Below.refl _ _) _
  have htr := tris_call (h.below hB0)
  have HM := Aside0.mk (And.intro (h.below hB0) (MapF.made (enc := encT) (ok := okT) w))
  have HB0 := Aside0.mk hB0
  clear h hB0
  go_enter Tryz.func27, Tryz.ntmps27
  go_wp2_with (go_at_call 23; (with_reducible refine htr.mono ?_); rintro u_ w1 ⟨vO, rfl, hR1, hB1⟩; obtain ⟨AO, cO, hvO⟩ := (tr_row.mp hR1).any; subst hvO)
  have HS : Aside0 (PSt w mb l O F M (.slice AO O.length cO) (fun _ => none) (.slice none 0 0) [] [] w1) := ⟨by
    refine ⟨HM.out.1.below hB1, HM.out.2.below hB1, ?_, Pr.nil _ _, HB0.out.trans (hB1.mono HB0.out.size)⟩
    exact tr_row.mpr ((tr_row.mp hR1).rebase (by simp))⟩
  have HT : Aside0 (Till (Fixd F) O 0 [] (isIn fun _ => none) ∧ ∀ (t : Tr) (v : Value), (fun _ : Tr => (none : Option Value)) t = some v → v = .int .i64 1) := ⟨Till.begin fun t q => by simp [isIn] at q, fun t v q => by cases q⟩
  clear hR1 hB1 HM HB0 htr hmm
  go_loopw [14, 4] (fun v14 v4 wr => ∃ (k : Nat) (hs : List Sl) (L : List (List Tr)) (gs : Tr → Option Value), v14 = .int .i64 k ∧ k ≤ O.length ∧ Aside0 (PSt w mb l O F M (.slice AO O.length cO) gs v4 hs L wr) ∧ Aside0 (Till (Fixd F) O k L (isIn gs) ∧ ∀ t v, gs t = some v → v = .int .i64 1)) (fun v14 _ _ => O.length - (intOf v14).toNat)
  case atStart => exact ⟨0, [], [], _, rfl, by omega, HS, HT⟩
  case round =>
    clear HS HT
    obtain ⟨k, hs, L, gs, rfl, hk, HP, HT⟩ := hrel
    have hbig := HK.out.2.2.1
    by_cases hlt : k < O.length
    · have d1 : decide (k < O.length) = true := decide_eq_true hlt
      have d2 : ((k < O.length) = True) := by simp; omega
      have d3 : decide (((k : Nat) : Int) < ((O.length : Nat) : Int)) = true := by simp; omega
      have ik : IntKind.i64.wrap ((k : Int) + 1) = (k : Int) + 1 := wrapN (by omega) (by omega)
      have hOk : O[k]? = some O[k] := List.getElem?_eq_getElem hlt
      obtain ⟨g, cap, hv, hcp⟩ := (tr_row.mp HP.out.orow).shape (by omega)
      injection hv with hv1 _ hv2
      subst hv1 hv2
      have hc := fun j u (hu : (cT O[k])[j]? = some u) (hj : j < 3) => (tr_row.mp HP.out.orow).cell (j := k * 3 + j) ((at_cell hOk hj).trans hu)
      have HTL := Aside0.mk (fun (hs' : isIn gs O[k]) => HT.out.1.skip hlt hs')
      have HTC := Aside0.mk (fun (hs' : ¬ isIn gs O[k]) => till_clean (fixd_comm F) HT.out.1 hlt hs')
      have HTA := Aside0.mk (fun (hs' : ¬ isIn gs O[k]) (p : List Tr) (gs' : Tr → Option Value) => HT.out.1.add (seen' := isIn gs') (p := p) HK.out.1 (fixd_comm F) hlt hs')
      have HOM := Aside0.mk (List.getElem_mem hlt : O[k] ∈ O)
      generalize O[k] = x at *
      have z0 := (hc 0 _ rfl (by omega) : wr.cell? _ = some (Value.int .i64 x.1))
      have z1 := (hc 1 _ rfl (by omega) : wr.cell? _ = some (Value.int .i64 x.2.1))
      have z2 := (hc 2 _ rfl (by omega) : wr.cell? _ = some (Value.int .i64 x.2.2))
      simp only [Nat.add_zero] at z0
      have HH := Aside0.mk hcp
      clear hc hOk hcp
      have HP1 : Aside0 (PSt w mb l O F M (.slice (some ⟨g, 0, none⟩) O.length cO) gs u4 hs L (wr.alloc (.cells #[.int .i64 x.1, .int .i64 x.2.1, .int .i64 x.2.2] 53))) := ⟨HP.out.below (below_alloc (Below.refl _ _) _)⟩
      have hlk : (Instr.lookup 50 (.map (some w.heap.size)) (.agg #[.int .i64 x.1, .int .i64 x.2.1, .int .i64 x.2.2]) false).run Tryz.prog (wr.alloc (.cells #[.int .i64 x.1, .int .i64 x.2.1, .int .i64 x.2.2] 53)) = .ok ((gs x).getD (.int .i64 0)) (wr.alloc (.cells #[.int .i64 x.1, .int .i64 x.2.1, .int .i64 x.2.2] 53)) :=
        HP1.out.map.lookup kT Tryz.underlying50 (zeroI _) (x := x) (mesh_rng HP.out.mesh HOM.out) false
      cases hgx : gs x with
      | some v =>
        have hv1 := HT.out.2 x v hgx
        rw [hgx] at hlk
        subst hv1
        simp only [Option.getD_some] at hlk
        have HN := Aside0.mk (And.intro (HTL.out (by unfold isIn; rw [hgx]; rfl)) HT.out.2)
        clear hgx HTL HTC HTA HT
        go_wp2
        go_roundw
        case rel => exact ⟨k + 1, _, _, _, by simp, by omega, HP1, HN⟩
        case measure => simp [intOf]; omega
      | none =>
        rw [hgx] at hlk
        simp only [Option.getD_none] at hlk
        have hni : ¬ isIn gs x := by unfold isIn; rw [hgx]; simp
        have HTA2 := Aside0.mk (HTA.out hni)
        have hpt := part_call HP1.out.mesh HP1.out.map HT.out.2 (fun q => by have := HK.out.2.2.2 _ q; omega) HOM.out (HTC.out hni)
        have hz := till_len HT.out.1
        have hz2 := HP.out.prs.len
        have HZ : Aside0 ((hs.length + 1) * 24 ≤ 140737488355328) := ⟨by omega⟩
        have HONE := Aside0.mk HT.out.2
        unfold encT at hpt
        clear hgx HTL HTC HTA HT hni hz hz2
        go_wp2_with (first
          | (go_at_call 78; (with_reducible refine hpt.mono ?_); rintro u_ w5 ⟨v5, p5, gs5, rfl, hR5, hU5, hC5, hM5, hO5, hI5, hF5⟩; obtain ⟨A5, c5, hv5⟩ := (tr_row.mp hR5).any; subst hv5; have HP5 := HP1.out.turn HK.out.2.2.2 hM5 hF5; have hrow5 := HP5.prs.row; have hle5 := HP5.bel.size)
          | (refine wp_add1 flatSl rfl (.tmp 22) (.tmp 27) 47 23 (.slice none 0 0) 24 rfl Tryz.underlying47 infoSl rfl (by decide) (by decide) ((A5, p5.length, c5) : Sl) rfl (by simp [Act.eval]) rfl hrow5 hle5 HZ.out ?_; intro v6 w6 hr6 hg6))
        have HP6 := Aside0.mk (HP5.add HK.out.2.2.2 (x := (A5, p5.length, c5)) (p := p5) (tr_row.mpr ((tr_row.mp hR5).rebase (by have := HP1.out.bel.size; omega))) hr6 hg6)
        have HN := Aside0.mk (And.intro (HTA2.out p5 gs5 hU5 hC5 hI5) hO5)
        go_roundw
        case rel => exact ⟨k + 1, _, _, _, by simp, by omega, HP6, HN⟩
        case measure => simp [intOf]; omega
    · have e : k = O.length := by omega
      subst e
      have hv := HP.out.prs.row
      obtain ⟨A4, c4, hv4⟩ := (sl_row.mp hv).any
      clear hv
      have HN := Aside0.mk HT.out.1.parts
      clear HT
      go_wp2
      go_ret2
      exact ⟨_, hs, L, rfl, HP.out.prs, HN.out, HP.out.bel⟩
end
end Go.Proofs.YtjiolfpahollkaaGreatDoor.Msh
