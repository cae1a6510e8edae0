/- Lemmas of Mce. Conditions stand in each. -/
import Derived.Test.YtaoichlepfiliaaGreatDoorQXKfl
set_option linter.unusedSimpArgs false
set_option linter.unusedVariables false
namespace Go.Proofs.YtaoichlepfiliaaGreatDoor.Mp
open Go.ChangeMaps Go.MapKept Go.RowKit
section
variable {P : Program} {w w1 : World} {ops : Array Oper} {rest : List Oper} {o : Oper} {a : Act} {Q : Exit → Act → World → Prop}
theorem wp_entry (hg : o.guard = none) (it : Operand) (hop : o.op = Op.entry it) {r : Nat} {v : Value} (hit : a.eval it = .pointer (some ⟨r, 0, none⟩)) (h : (Instr.entry (.pointer (some ⟨r, 0, none⟩))).run P w = .ok v w) (hK : wpList P ops Q rest (a.put o.dst v) w) : wpList P ops Q (o :: rest) a w := by
 refine wpList_plain hg fun K' hK' => ?_
 unfold Oper.wp
 simp [execOp, hop, hit, h, Result.andThen]
 exact hK' _ _ hK
variable {α : Type} {enc : α → Value} {ok : α → Prop} {f : α → Option Value} {b r : Nat} {left : α → Prop}
theorem Rang.keep (h : Rang enc ok w b r f left) (hb : w1.heap[b]? = w.heap[b]?) (hr : w1.heap[r]? = w.heap[r]?) : Rang enc ok w1 b r f left ∧ w1.rangeLeft b r = w.rangeLeft b r := ⟨h.move hb hr, by unfold World.rangeLeft; rw [hb, hr]⟩
theorem Rang.blocks (h : Rang enc ok w b r f left) : (∃ o, w.heap[b]? = some o ∧ ∀ cs e fr, o ≠ .cells cs e fr) ∧ ∃ o, w.heap[r]? = some o ∧ ∀ cs e fr, o ≠ .cells cs e fr := by
 obtain ⟨es, clock, since, seen, c0, h1, -, h2, -⟩ := h
 exact ⟨⟨_, h1, by intros; simp⟩, ⟨_, h2, by intros; simp⟩⟩
end
end Go.Proofs.YtaoichlepfiliaaGreatDoor.Mp
namespace Go.Proofs.YtaoichlepfiliaaGreatDoor.Msh
open Go.RowKit Go.Sort Go.Proofs Go.Shelf Go.Proofs.YtaoichlepfiliaaGreatDoor.Mp Go.Proofs.YtaoichlepfiliaaGreatDoor.Adm Go.Proofs.YtaoichlepfiliaaGreatDoor.Kfl Go.Proofs.YtaoichlepfiliaaGreatDoorW.PrintWords Go.Proofs.YtaoichlepfiliaaGreatDoorW.PrintLast
theorem infoTr : (Tryz.prog.info? 53).map (fun i => (i.zero, i.size, i.bytes)) = some (some (.agg #[.int .i64 0, .int .i64 0, .int .i64 0]), 3, 24) := by kernel_rfl
structure Rnd {τ : Type} (d : Kd τ) (e : Nat) (ok : Int × Int → Prop) (w : World) (b : Nat) (f : Int × Int → Option Value) (pick : Int × Int → Value → Option τ) (v : Value) (wr : World) (xs : List τ) (left : Int × Int → Prop) : Prop where
 row : d.R e wr w.heap.size anyB v xs
 rng : Rang encE ok wr b w.heap.size f left
 pk : Picked f left pick xs
 bel : Below w.heap.size w wr
section
variable {τ : Type} {d : Kd τ} {e b : Nat} {ok : Int × Int → Prop} {w wr W' W2 w1 : World} {f : Int × Int → Option Value} {pick : Int × Int → Value → Option τ} {v v1 : Value} {xs : List τ} {left : Int × Int → Prop}
theorem Rnd.row_next (h : Rnd d e ok w b f pick v wr xs left) (hs : ∀ c, c ≠ w.heap.size → W'.heap[c]? = wr.heap[c]?) : d.R e W' w.heap.size anyB v xs := by
 obtain ⟨-, o, ho, hne⟩ := h.rng.blocks
 refine Kd.R_move (Kd.R_mono (ok' := fun k => k ≠ w.heap.size) (Kd.R_bound h.row) (fun k hk => ?_)) (fun k hk => hs k hk) |> fun q => Kd.R_mono q (fun _ _ => trivial)
 intro q
 obtain ⟨-, -, -, q1, -, cells, hc⟩ := hk
 rw [q, ho] at hc
 injection hc with hc
 exact hne _ _ _ hc
theorem Rnd.skip (h : Rnd d e ok w b f pick v wr xs left) {x : Int × Int} {u : Value} (hf : f x = some u) (hp : pick x u = none) (hs : ∀ c, c ≠ w.heap.size → W'.heap[c]? = wr.heap[c]?) (hR : Rang encE ok W' b w.heap.size f (fun y => left y ∧ y ≠ x)) (hB : Below w.heap.size wr W') (hG : Gr W' w1) :
 Rnd d e ok w b f pick v w1 xs (fun y => left y ∧ y ≠ x) ∧ w1.rangeLeft b w.heap.size = W'.rangeLeft b w.heap.size := by
 have hb := hG.below
 obtain ⟨k1, k2⟩ := hR.keep (hb.block b hR.lt.2) (hb.block _ hR.lt.1)
 exact ⟨⟨Kd.R_below (h.row_next hs) hb, k1, h.pk.skip hf hp, (h.bel.trans hB).trans (hb.mono (Nat.le_trans h.bel.size hB.size))⟩, k2⟩
theorem Rnd.add (h : Rnd d e ok w b f pick v wr xs left) {x : Int × Int} {u : Value} {t : τ} (hf : f x = some u) (hl : left x) (hp : pick x u = some t) (hi : ∀ k u, pick k u = some t → k = x) (hR : Rang encE ok W' b w.heap.size f (fun y => left y ∧ y ≠ x)) (hB : Below w.heap.size wr W') (hG : Gr W' W2)
 (hr : d.R e W2 w.heap.size anyB v xs) (hr1 : d.R e w1 w.heap.size anyB v1 (xs ++ [t])) (hg : W2.grownBy w1 v.ownBlock) : Rnd d e ok w b f pick v1 w1 (xs ++ [t]) (fun y => left y ∧ y ≠ x) ∧ w1.rangeLeft b w.heap.size = W'.rangeLeft b w.heap.size := by
 have hb := hG.below
 obtain ⟨⟨o, ho, hn⟩, o', ho', hn'⟩ := hR.blocks
 have e1 := row_keeps hr hg ((hb.block b hR.lt.2).trans ho) hn
 have e2 := row_keeps hr hg ((hb.block _ hR.lt.1).trans ho') hn'
 obtain ⟨k1, k2⟩ := hR.keep (e1.trans ho.symm) (e2.trans ho'.symm)
 have hs := Nat.le_trans h.bel.size hB.size
 exact ⟨⟨hr1, k1, h.pk.add hf hl hp hi, ((h.bel.trans hB).trans (hb.mono hs)).trans (grown_below hg (fun q hq => Kd.R_base hr q hq) (Nat.le_trans hs hb.size))⟩, k2⟩
end
def pickT (p : Int × Int) (v : Value) : Option Tr := match v with
 | .int .i64 c => if p.1 < p.2 ∧ p.1 < c then some (p.1, p.2, c) else none
 | _ => none
theorem pickT_some {p : Int × Int} {v : Value} {t : Tr} (h : pickT p v = some t) : p = (t.1, t.2.1) ∧ v = .int .i64 t.2.2 ∧ t.1 < t.2.1 ∧ t.1 < t.2.2 := by
 unfold pickT at h
 split at h
 ·split at h
  ·injection h with h
   subst h
   exact ⟨rfl, rfl, by assumption⟩
  ·cases h
 ·cases h
theorem pickT_iff {f : Int × Int → Option Value} {O : List Tr} (m : Mesh O) (h : Apx f O) (t : Tr) : (∃ k v, f k = some v ∧ pickT k v = some t) ↔ t ∈ O := by
 obtain ⟨a, b, c⟩ := t
 rw [apx_tri m h]
 constructor
 ·rintro ⟨k, v, h1, h2⟩
  obtain ⟨rfl, rfl, h3, h4⟩ := pickT_some h2
  exact ⟨h1, h3, h4⟩
 ·rintro ⟨h1, h2, h3⟩
  exact ⟨(a, b), _, h1, by unfold pickT; simp only; rw [if_pos ⟨h2, h3⟩]⟩
set_option maxRecDepth 100000 in
set_option maxHeartbeats 4000000 in
theorem tris_call {w : World} {mb : Nat} {l : List S} {O F : List Tr} {M : Nat → Prop} (h : MeshAt w mb l O F M) :
 Calls Tryz.prog 16 #[ptr mb] w fun r w' => ∃ v, r = .returned v ∧ kTr.R 53 w' w.heap.size anyB v O ∧ Below w.heap.size w w' := by
 obtain ⟨A, c, ab, sb, fb, f, g, s, h⟩ := h
 have h0 : w.cell? ⟨mb, 1, none⟩ = some (.map (some ab)) := by rw [blk_cell h.blk]; rfl
 have hm := h.apex
 have HX := Aside0.mk (And.intro h.apx (And.intro h.mesh h.good.2))
 have HN := Aside0.mk h.rng
 clear h
 have HL : Aside0 (∀ xs left, Picked f left pickT xs → (xs.length + 1) * 24 ≤ 140737488355328) := ⟨fun xs left hP => by
  obtain ⟨ha, hM, hl⟩ := HX.out
  have h1 := pairs_size (n := l.length) (xs := xs.map fun t => (t.1, t.2.1)) (by
   unfold List.Nodup
   rw [List.pairwise_map]
   refine hP.nd.imp_of_mem fun {x y} hx hy hxy e => hxy ?_
   obtain ⟨k, v, k1, -, k2⟩ := (hP.mem x).mp hx
   obtain ⟨k', v', k1', -, k2'⟩ := (hP.mem y).mp hy
   obtain ⟨e1, e2, -⟩ := pickT_some k2
   obtain ⟨e1', e2', -⟩ := pickT_some k2'
   rw [e1, e, ← e1', k1', e2'] at k1
   injection k1 with k1
   rw [e2] at k1
   injection k1 with _ k1
   injection e with q1 q2
   exact Prod.ext q1 (Prod.ext q2 k1.symm)) (fun p hp => by
   obtain ⟨t, ht, rfl⟩ := List.mem_map.mp hp
   obtain ⟨k, v, k1, -, k2⟩ := (hP.mem t).mp ht
   have := HN.out t ((pickT_iff hM ha t).mp ⟨k, v, k1, k2⟩)
   exact ⟨this.1, this.2.1⟩)
  rw [List.length_map] at h1
  have h2 := Nat.mul_le_mul hl hl
  omega⟩
 go_enter Tryz.func16, Tryz.ntmps16
 go_wp2_with (refine wp_range kE Tryz.underlying87 rfl (.tmp 11) rfl rfl hm ?_; intro W1 hR1 hB1)
 simp only [Act.put, List.setIfInBounds_toArray, List.set_cons_zero, List.set_cons_succ]
 go_loopw [3] (fun v wr => ∃ xs left, Rnd kTr 53 okE w ab f pickT v wr xs left) (fun _ wr => wr.rangeLeft ab w.heap.size)
 case atStart => exact ⟨[], _, ⟨Kd.R_nil _ _ _ _ _, hR1, Picked.start, hB1⟩⟩
 case round =>
  obtain ⟨xs, left, HR⟩ := hrel
  have hRg := HR.rng
  go_wp2_with (refine wp_next kE rfl (.tmp 12) rfl rfl hRg ?_ ?_)
  ·intro hd
   have hz := HL.out xs left HR.pk
   have hS := sortedTri_call HR.row (by omega)
   have HD := Aside0.mk hd
   clear hd
   go_wp2_with (go_at_call 48; (with_reducible refine hS.mono ?_); rintro u_ w2 ⟨rfl, ys, k1, k2, k3, k4⟩)
   go_ret
   obtain ⟨ha, hM, -⟩ := HX.out
   have e := sorted_eq k1 k2 HR.pk.nd hM.up (fun t => (HR.pk.done (fun x => HD.out x.1 x.2) t).trans (pickT_iff hM ha t))
   rw [e] at k3
   exact ⟨_, rfl, k3, HR.bel.trans (grown_below k4 (fun q hq => Kd.R_base HR.row q hq) HR.bel.size)⟩
  ·intro a b u W' hok hl hf hR2 hms hBl hoth hent
   obtain ⟨c0, rfl, -⟩ := (HX.out.1 a b u).mp hf
   have HE := Aside0.mk hent
   have hR3 : Rang encE okE W' ab w.heap.size f (fun y => left y ∧ y ≠ (a, b)) := hR2
   have hz := HL.out xs left HR.pk
   have hrow := HR.row_next hoth
   have hB2 := HR.bel.trans (hBl _ (Nat.le_refl _))
   have HP := Aside0.mk (And.intro hf (And.intro hl (And.intro hoth (And.intro (hBl _ (Nat.le_refl _)) hR3))))
   clear hent hf hl hok hoth hR2 hBl hR3
   unfold encE at HE
   have hG0 := Gr.refl W'
   by_cases h1 : a < b ∧ a < c0
   ·obtain ⟨h1, h2⟩ := h1
    have d1 : decide (a < b) = true := decide_eq_true h1
    have d2 : decide (a < c0) = true := decide_eq_true h2
    go_wp2_with (first | (refine wp_entry rfl (.tmp 12) rfl rfl HE.out ?_) | (refine wp_add1 flatT rfl (.tmp 29) (.tmp 36) 23 53 (.agg #[.int .i64 0, .int .i64 0, .int .i64 0]) 24 rfl Tryz.underlying23 infoTr rfl (by decide) (by decide) (a, b, c0) rfl (by simp [Act.eval]) rfl (Kd.R_alloc hrow _) (by simpa using Nat.le_trans hB2.size (Nat.le_succ _)) hz ?_; intro v1 w1 hr1 hg1))
    have HH := HR.add HP.out.1 HP.out.2.1 (t := (a, b, c0)) (by unfold pickT; simp only; rw [if_pos ⟨h1, h2⟩]) (fun k u hk => (pickT_some hk).1) HP.out.2.2.2.2 HP.out.2.2.2.1 (hG0.alloc _) (Kd.R_alloc hrow _) hr1 hg1
    have HH2 := Aside0.mk HH.2
    have HH1 := HH.1
    clear HH
    go_roundw
    case rel => exact ⟨_, _, HH1⟩
    case measure => rw [HH2.out]; exact hms
   ·have hp : pickT (a, b) (.int .i64 c0) = none := by unfold pickT; simp only; rw [if_neg h1]
    by_cases h2 : a < b
    ·have d1 : decide (a < b) = true := decide_eq_true h2
     have d2 : decide (a < c0) = false := decide_eq_false (fun q => h1 ⟨h2, q⟩)
     go_wp2_with (refine wp_entry rfl (.tmp 12) rfl rfl HE.out ?_)
     have HH := HR.skip HP.out.1 hp HP.out.2.2.1 HP.out.2.2.2.2 HP.out.2.2.2.1 (hG0.alloc (.cells #[.int .i64 a, .int .i64 b] 91))
     have HH2 := Aside0.mk HH.2
     have HH1 := HH.1
     clear HH
     go_roundw
     case rel => exact ⟨_, _, HH1⟩
     case measure => rw [HH2.out]; exact hms
    ·have d1 : decide (a < b) = false := decide_eq_false h2
     go_wp2_with (refine wp_entry rfl (.tmp 12) rfl rfl HE.out ?_)
     have HH := HR.skip HP.out.1 hp HP.out.2.2.1 HP.out.2.2.2.2 HP.out.2.2.2.1 (hG0.alloc (.cells #[.int .i64 a, .int .i64 b] 91))
     have HH2 := Aside0.mk HH.2
     have HH1 := HH.1
     clear HH
     go_roundw
     case rel => exact ⟨_, _, HH1⟩
     case measure => rw [HH2.out]; exact hms
end Go.Proofs.YtaoichlepfiliaaGreatDoor.Msh
