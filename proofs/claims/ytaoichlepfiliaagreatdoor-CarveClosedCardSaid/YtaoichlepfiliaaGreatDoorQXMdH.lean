/- Lemmas of MdH. Conditions stand in each. -/
import Derived.Test.YtaoichlepfiliaaGreatDoorQXMce
import Derived.Test.YtaoichlepfiliaaGreatDoorQXMcj
import Derived.Test.YtaoichlepfiliaaGreatDoorQXMdB
import Derived.Test.YtaoichlepfiliaaGreatDoorQXMco
import Derived.Test.YtaoichlepfiliaaGreatDoorQXMdq
import Derived.Test.YtaoichlepfiliaaGreatDoorQXMdx
import Derived.Test.YtaoichlepfiliaaGreatDoorQXAdm
set_option linter.unusedSimpArgs false
set_option linter.unusedVariables false
section
namespace Go.Proofs.YtaoichlepfiliaaGreatDoor.Msh
open Go.RowKit Go.Sort Go.Proofs Go.Shelf Go.Proofs.YtaoichlepfiliaaGreatDoor.Mp Go.Proofs.YtaoichlepfiliaaGreatDoor.Adm Go.Proofs.YtaoichlepfiliaaGreatDoor.Kfl Go.Proofs.YtaoichlepfiliaaGreatDoorW.PrintWords Go.Proofs.YtaoichlepfiliaaGreatDoorW.PrintLast
def cmpP (x y : Int × Int) : Int := cmp3 (x.1, x.2, 0) (y.1, y.2, 0)
theorem ltOf_cmpP (x y : Int × Int) : ltOf cmpP x y = decide (x.1 < y.1 ∨ x.1 = y.1 ∧ x.2 < y.2) := by
 have h : cmpP x y < 0 ↔ (x.1 < y.1 ∨ x.1 = y.1 ∧ x.2 < y.2) := by
  unfold cmpP
  rw [cmp3_lt]
  unfold lt3
  simp only
  omega
 unfold ltOf
 by_cases q : x.1 < y.1 ∨ x.1 = y.1 ∧ x.2 < y.2
 ·rw [decide_eq_true q, decide_eq_true (h.mpr q)]
 ·rw [decide_eq_false q, decide_eq_false (fun r => q (h.mp r))]
theorem swoP : SWO (ltOf cmpP) where
 irrefl x := by rw [ltOf_cmpP, decide_eq_false_iff_not]; omega
 trans x y z h k := by
  rw [ltOf_cmpP, decide_eq_true_iff] at *
  omega
 ntrans x y z h k := by
  rw [ltOf_cmpP, decide_eq_false_iff_not] at *
  omega
theorem infoPr : (Tryz.prog.info? 67).map (fun i => (i.zero, i.size, i.bytes)) = some (some (.agg #[.int .i64 0, .int .i64 0]), 2, 16) := by kernel_rfl
set_option maxHeartbeats 1000000 in
theorem sortedPair_call {w : World} {base : Nat} {v : Value} {xs : List (Int × Int)} (hR : kEd.R 67 w base anyB v xs) (hsz : xs.length < 4611686018427387904) :
 Calls Tryz.prog 90 #[v, .func (.func 91) #[] #[]] w fun r w' => r = .returned v ∧ ∃ ys : List (Int × Int), ys.Perm xs ∧ kEd.R 67 w' base anyB v ys ∧ w.grownBy w' v.ownBlock := by
 have hlt := Kd.R_lt hR
 obtain ⟨W1, hW1⟩ : ∃ W1, W1 = w.alloc (.cells #[.func (.func 91) #[] #[]] 126) := ⟨_, rfl⟩
 have hB : Below w.heap.size w W1 := by rw [hW1]; exact below_alloc (Below.refl _ _) _
 have hbox : W1.heap[w.heap.size]? = some (.cells #[.func (.func 91) #[] #[]] 126 (0, 0)) := by rw [hW1]; exact blk_new _ _
 have eg : ∀ args w, (callFunc 113 args).run Tryz.prog w = .ok (.enter 113 args) w := enters_of Tryz.func113 (by kernel_rfl) rfl
 have hmf : ∀ (fn : Fn) (first cap : Array Value) (w : World), (Instr.makeFunc fn first cap).run Tryz.prog w = .ok (.func fn first cap) w := fun _ _ _ _ => rfl
 have hS := flatE.sort Srp.sortL Tryz.isAgg67 Tryz.sizeOf67 cmpP swoP 113 #[.pointer (some ⟨w.heap.size, 0, none⟩)] eg (Kd.R_below hR hB) (fun x y W hW => by
  have hk : W.cell? ⟨w.heap.size, 0, none⟩ = some (.func (.func 91) #[] #[]) := by
   have := (hW w.heap.size (blk_lt hbox) (fun q => by have := hlt _ q.symm; omega)).trans hbox
   exact blk_cell this 0
  exact (sortPairs_call w.heap.size x y W hk).mono fun r W' ⟨he, hg⟩ => ⟨he, hg.out⟩) hsz
 change Calls Tryz.prog 112 _ _ _ at hS
 subst hW1
 go_enter Tryz.func90, Tryz.ntmps90
 go_wp2_with (go_at_call 112; (with_reducible refine hS.mono ?_); rintro u_ w2 ⟨rfl, ys, h1, h2, h3, h4⟩)
 go_ret
 exact ⟨rfl, ys, h1, h3, grown_trans hB h4⟩
set_option maxHeartbeats 1000000 in
theorem pairs_call {w : World} {base : Nat} {v : Value} {xs : List (Int × Int)} (hR : kEd.R 67 w base anyB v xs) (hsz : xs.length < 4611686018427387904) :
 Calls Tryz.prog 61 #[v] w fun r w' => r = .returned v ∧ ∃ ys : List (Int × Int), ys.Perm xs ∧ kEd.R 67 w' base anyB v ys ∧ w.grownBy w' v.ownBlock := by
 have hS := sortedPair_call hR hsz
 clear hR
 go_enter Tryz.func61, Tryz.ntmps61
 go_wp2_with (go_at_call 90; (with_reducible refine hS.mono ?_); rintro u_ w2 ⟨rfl, ys, h1, h3, h4⟩)
 go_ret
 exact ⟨rfl, ys, h1, h3, h4⟩
theorem turned_call (a b : Int) (w : World) : Calls Tryz.prog 60 #[.agg #[.int .i64 a, .int .i64 b]] w fun e w' => e = .returned (.agg #[.int .i64 b, .int .i64 a]) ∧ Gr w w' := by
 have hG := Gr.refl w
 go_enter Tryz.func60, Tryz.ntmps60
 go_wp2
 refine bodyPost_ret (v := .agg #[.int .i64 b, .int .i64 a]) ?_ rfl ⟨rfl, ?_⟩
 ·simp [results, Tryz.results60, go_sem]
 ·exact (by (with_reducible (repeat (first | assumption | apply Gr.drew | apply Gr.alloc | apply Gr.drewN | apply gr_set))) <;> (simp))
def pickB (f : Int × Int → Option Value) (p : Int × Int) (_ : Value) : Option (Int × Int) := if (f (p.2, p.1)).isSome then none else some p
theorem pickB_some {f : Int × Int → Option Value} {p t : Int × Int} {v : Value} (h : pickB f p v = some t) : p = t ∧ (f (p.2, p.1)).isSome = false := by
 unfold pickB at h
 split at h
 ·cases h
 ·injection h with h
  exact ⟨h, by rename_i q; simpa using q⟩
set_option maxRecDepth 100000 in
set_option maxHeartbeats 4000000 in
theorem border_call {w : World} {mb : Nat} {l : List S} {O F : List Tr} {M : Nat → Prop} (h : MeshAt w mb l O F M) :
 Calls Tryz.prog 30 #[ptr mb] w fun r w' => ∃ v E, r = .returned v ∧ kEd.R 67 w' w.heap.size anyB v E ∧ (∀ p ∈ E, (behind O p.1 p.2).isSome = true ∧ behind O p.2 p.1 = none ∧ W64 p.1 ∧ W64 p.2) ∧ E.length ≤ 1099511627776 ∧ Below w.heap.size w w' := by
 obtain ⟨A, c, ab, sb, fb, f, g, s, h⟩ := h
 have h0 : w.cell? ⟨mb, 1, none⟩ = some (.map (some ab)) := by rw [blk_cell h.blk]; rfl
 have hm := h.apex
 have hgood := h.good.2
 have HQ : Aside0 (∀ xs left, Picked f left (pickB f) xs → ∀ p ∈ xs, ((behind O p.1 p.2).isSome = true ∧ behind O p.2 p.1 = none) ∧ (0 ≤ p.1 ∧ p.1 < l.length) ∧ (0 ≤ p.2 ∧ p.2 < l.length)) := ⟨fun xs left hP p hp => by
  obtain ⟨k, v, k1, -, k2⟩ := (hP.mem p).mp hp
  obtain ⟨rfl, k3⟩ := pickB_some k2
  obtain ⟨a, b⟩ := k
  have e1 := h.apx.ask h.mesh a b
  have e2 := h.apx.ask h.mesh b a
  rw [k1] at e1
  simp only at k3
  rw [e2, Option.isSome_map] at k3
  cases hb : behind O a b with
  | none => rw [hb] at e1; cases e1
  | some c =>
   have hO := h.mesh.apx.mp hb
   have hr := h.rng _ hO
   refine ⟨⟨rfl, by simpa using k3⟩, ?_⟩
   simp only
   rcases own_cases (a, b, c) with e | e | e <;> (rw [e] at hr; simp only [rot] at hr)
   ·exact ⟨hr.1, hr.2.1⟩
   ·exact ⟨hr.2.2, hr.1⟩
   ·exact ⟨hr.2.1, hr.2.2⟩⟩
 clear h
 have HL : Aside0 (∀ xs left, Picked f left (pickB f) xs → (xs.length + 1) * 16 ≤ 140737488355328 ∧ xs.length ≤ 1099511627776) := ⟨fun xs left hP => by
  have h1 := pairs_size (n := l.length) hP.nd (fun p hp => (HQ.out xs left hP p hp).2)
  have h2 := Nat.mul_le_mul hgood hgood
  omega⟩
 have HG := Aside0.mk hgood
 clear hgood
 go_enter Tryz.func30, Tryz.ntmps30
 go_wp2_with (refine wp_range kE Tryz.underlying87 rfl (.tmp 12) rfl rfl hm ?_; intro W1 hR1 hB1)
 simp only [Act.put, List.setIfInBounds_toArray, List.set_cons_zero, List.set_cons_succ]
 go_loopw [3] (fun v wr => ∃ xs left, Rnd kEd 67 okE w ab f (pickB f) v wr xs left) (fun _ wr => wr.rangeLeft ab w.heap.size)
 case atStart => exact ⟨[], _, ⟨Kd.R_nil _ _ _ _ _, hR1, Picked.start, hB1⟩⟩
 case round =>
  obtain ⟨xs, left, HR⟩ := hrel
  have hRg := HR.rng
  go_wp2_with (refine wp_next kE rfl (.tmp 13) rfl rfl hRg ?_ ?_)
  ·intro hd
   have hz := HL.out xs left HR.pk
   have hS := pairs_call HR.row (by omega)
   clear hd
   go_wp2_with (go_at_call 61; (with_reducible refine hS.mono ?_); rintro u_ w2 ⟨rfl, ys, k1, k3, k4⟩)
   go_ret
   refine ⟨_, ys, rfl, k3, fun p hp => ?_, by rw [k1.length_eq]; exact hz.2, HR.bel.trans (grown_below k4 (fun q hq => Kd.R_base HR.row q hq) HR.bel.size)⟩
   have q := HQ.out xs left HR.pk p (k1.mem_iff.mp hp)
   have hg := HG.out
   exact ⟨q.1.1, q.1.2, w64 (by omega) (by omega), w64 (by omega) (by omega)⟩
  ·intro a b u W' hok hl hf hR2 hms hBl hoth hent
   have HE := Aside0.mk hent
   have hR3 : Rang encE okE W' ab w.heap.size f (fun y => left y ∧ y ≠ (a, b)) := hR2
   have hz := (HL.out xs left HR.pk).1
   have hrow := HR.row_next hoth
   have hB2 := HR.bel.trans (hBl _ (Nat.le_refl _))
   have hm2 := hm.below hB2
   have h2 := bcell hB2 h0
   have HP := Aside0.mk (And.intro hf (And.intro hl (And.intro hoth (And.intro (hBl _ (Nat.le_refl _)) hR3))))
   have hsz := hB2.size
   obtain ⟨W2, hW2⟩ : ∃ W2, W2 = W'.alloc (.cells #[.int .i64 a, .int .i64 b] 91) := ⟨_, rfl⟩
   have hG2 : Gr W' W2 := by rw [hW2]; exact (Gr.refl _).alloc _
   have hbx : W2.heap[W'.heap.size]? = some (.cells #[.int .i64 a, .int .i64 b] 91 (0, 0)) := by rw [hW2]; exact blk_new _ _
   have htu := fun W => turned_call a b W
   obtain ⟨vq, hvq⟩ : ∃ vq, vq = (f (b, a)).getD (.int .i64 0) := ⟨_, rfl⟩
   obtain ⟨q, hq⟩ : ∃ q, q = (f (b, a)).isSome := ⟨_, rfl⟩
   have HC : Aside0 (∀ W, Gr W2 W → W.cell? ⟨mb, 1, none⟩ = some (.map (some ab)) ∧ W.cell? ⟨W'.heap.size, 0, none⟩ = some (.int .i64 a) ∧ W.cell? ⟨W'.heap.size, 1, none⟩ = some (.int .i64 b) ∧ (Instr.lookup 87 (.map (some ab)) (.agg #[.int .i64 b, .int .i64 a]) true).run Tryz.prog W = .ok (.tuple #[vq, .bool q]) W) := ⟨fun W hW => by
    have hbw := gr_blk hbx hW
    have := (hm2.below (hG2.trans hW).below).lookup (w := W) kE Tryz.underlying87 (zeroI W) (x := (b, a)) ⟨hok.2, hok.1⟩ true
    rw [← hvq, ← hq] at this
    exact ⟨(hG2.trans hW).cell h2, (blk_cell hbw 0).trans (show _ = some (Value.int .i64 a) from rfl), (blk_cell hbw 1).trans (show _ = some (Value.int .i64 b) from rfl), this⟩⟩
   have HQ2 := Aside0.mk hq
   clear hent hf hl hok hoth hR2 hBl hR3 hm2 h2 hvq hbx hq
   unfold encE at HE
   have hG0 := Gr.refl W2
   go_upto_region 7 with (refine wp_entry rfl (.tmp 13) rfl rfl HE.out ?_)
   rw [← hW2]
   clear hW2
   cases q with
   | true =>
    go_region_held3 (fun W => W.cell? ⟨mb, 1, none⟩ = some (.map (some ab)) ∧ W.cell? ⟨W'.heap.size, 0, none⟩ = some (.int .i64 a) ∧ W.cell? ⟨W'.heap.size, 1, none⟩ = some (.int .i64 b) ∧ (Instr.lookup 87 (.map (some ab)) (.agg #[.int .i64 b, .int .i64 a]) true).run Tryz.prog W = .ok (.tuple #[vq, .bool true]) W)
     ((with_reducible refine HC.out _ ?_; (repeat (first | assumption | exact Gr.refl _ | apply Gr.drew | apply Gr.alloc | apply Gr.drewN))))
     ((go_at_call 60; (with_reducible refine (htu _).mono ?_); rintro u_ w5 ⟨rfl, hg5⟩; have hG5 := Gr.trans (a := W2) (by (with_reducible (repeat (first | assumption | exact Gr.refl _ | apply Gr.drew | apply Gr.alloc | apply Gr.drewN)))) hg5; clear hg5))
    all_goals
     go_wp2
     have HH := HR.skip HP.out.1 (by unfold pickB; simp only; rw [if_pos HQ2.out.symm]) HP.out.2.2.1 HP.out.2.2.2.2 HP.out.2.2.2.1 (hG2.trans hG5)
     have HH2 := Aside0.mk HH.2
     have HH1 := HH.1
     clear HH
     go_roundw
     case rel => exact ⟨_, _, HH1⟩
     case measure => rw [HH2.out]; exact hms
   | false =>
    go_region_held3 (fun W => W.cell? ⟨mb, 1, none⟩ = some (.map (some ab)) ∧ W.cell? ⟨W'.heap.size, 0, none⟩ = some (.int .i64 a) ∧ W.cell? ⟨W'.heap.size, 1, none⟩ = some (.int .i64 b) ∧ (Instr.lookup 87 (.map (some ab)) (.agg #[.int .i64 b, .int .i64 a]) true).run Tryz.prog W = .ok (.tuple #[vq, .bool false]) W)
     ((with_reducible refine HC.out _ ?_; (repeat (first | assumption | exact Gr.refl _ | apply Gr.drew | apply Gr.alloc | apply Gr.drewN))))
     ((go_at_call 60; (with_reducible refine (htu _).mono ?_); rintro u_ w5 ⟨rfl, hg5⟩; have hG5 := Gr.trans (a := W2) (by (with_reducible (repeat (first | assumption | exact Gr.refl _ | apply Gr.drew | apply Gr.alloc | apply Gr.drewN)))) hg5; clear hg5))
    all_goals
     obtain ⟨-, y0, y1, -⟩ := HC.out _ hG5
     have hr5 := Kd.R_below hrow (hG2.trans hG5).below
     have hs5 := (hG2.trans hG5).below.size
     go_wp2_with (refine wp_add1 flatE rfl (.tmp 30) (.tmp 32) 65 67 (.agg #[.int .i64 0, .int .i64 0]) 16 rfl Tryz.underlying65 infoPr rfl (by decide) (by decide) (a, b) rfl (by simp [Act.eval]) rfl hr5 (by omega) hz ?_; intro v1 w1 hr1 hg1)
     have HH := HR.add HP.out.1 HP.out.2.1 (t := (a, b)) (by unfold pickB; simp only; rw [if_neg (by rw [← HQ2.out]; decide)]) (fun k u hk => (pickB_some hk).1) HP.out.2.2.2.2 HP.out.2.2.2.1 (hG2.trans hG5) hr5 hr1 hg1
     have HH2 := Aside0.mk HH.2
     have HH1 := HH.1
     clear HH
     go_roundw
     case rel => exact ⟨_, _, HH1⟩
     case measure => rw [HH2.out]; exact hms
end Go.Proofs.YtaoichlepfiliaaGreatDoor.Msh
end
section
namespace Go.Proofs.YtaoichlepfiliaaGreatDoor.Msh
open Go.RowKit Go.Proofs.YtaoichlepfiliaaGreatDoor.Mp Go.Proofs.YtaoichlepfiliaaGreatDoor.Adm
def refO (l : List S) (T : List Tr) (t : Tr) : List Tr := if makeE l T t = 0 then T ++ [t] else T
theorem makeE_eq {l : List S} {T : List Tr} (h : Made T) (t : Tr) : makeE l T t = makeE l (tris T) t := by
 have hf : Free T t ↔ Free (tris T) t := by unfold Free; rw [h.apx_eq, h.apx_eq, h.apx_eq]
 unfold makeE
 by_cases q : Free T t
 ·rw [if_pos q, if_pos (hf.mp q)]
 ·rw [if_neg q, if_neg (fun k => q (hf.mpr k))]
theorem makeE_zero {l : List S} {O : List Tr} {t : Tr} (h : makeE l O t = 0) : hasN l t.1 = true ∧ hasN l t.2.1 = true ∧ hasN l t.2.2 = true ∧ 0 < sgT l t ∧ Free O t := by
 unfold makeE at h
 split at h
 ·cases h
 ·split at h
  ·cases h
  ·split at h
   ·rename_i h1 h2 h3
    refine ⟨?_, ?_, ?_, by omega, h3⟩
    ·cases q : hasN l t.1 <;> simp_all
    ·cases q : hasN l t.2.1 <;> simp_all
    ·cases q : hasN l t.2.2 <;> simp_all
   ·cases h
theorem ref_step {l : List S} {T : List Tr} (h : Made T) (t : Tr) : Made (refO l T t) ∧ tris (refO l T t) = makeO l (tris T) t := by
 unfold refO makeO
 rw [← makeE_eq h]
 split
 ·rename_i h0
  obtain ⟨-, -, -, h4, h5⟩ := makeE_zero h0
  exact ⟨h.add (sgT_ds (a := t.1) (b := t.2.1) (c := t.2.2) (by show ¬ sgT l t ≤ 0; omega)) h5, tris_add T t⟩
 ·exact ⟨h, rfl⟩
def bothT (l : List S) (Ts : List Tr) : List Tr := Ts.foldl (refO l) []
def bothO (l : List S) (Ts : List Tr) : List Tr := Ts.foldl (makeO l) []
def bothF (l : List S) (Fs : List Tr) : List Tr := Fs.foldl (fun F t => fixF l F t.1 t.2.1 t.2.2) []
theorem both_law (l : List S) (Ts : List Tr) : Made (bothT l Ts) ∧ tris (bothT l Ts) = bothO l Ts := by
 have : ∀ (Ts T : List Tr), Made T → Made (Ts.foldl (refO l) T) ∧ tris (Ts.foldl (refO l) T) = Ts.foldl (makeO l) (tris T) := fun Ts => by
  induction Ts with
  | nil => intro T h; exact ⟨h, rfl⟩
  | cons t Ts ih =>
   intro T h
   obtain ⟨h1, h2⟩ := ref_step (l := l) h t
   have := ih _ h1
   rw [h2] at this
   exact this
 exact this Ts [] made_none
def eds (t : Tr) : List (Int × Int) := [(t.1, t.2.1), (t.2.1, t.2.2), (t.2.2, t.1)]
theorem ed_own (a b c : Int) : (a, b) ∈ eds (own (a, b, c)) := by
 rcases own_cases (a, b, c) with h | h | h <;> rw [h] <;> simp [eds, rot]
section
variable {fx : Int → Int → Prop} {O F : List Tr} {L : List (List Tr)} {l lp : List S}
theorem rest_size (hu : Up O) (hL : IsParts fx O L) (g : List Tr → Bool) : (O.filter fun t => decide (t ∉ (L.filter g).flatten)).length + (L.filter g).flatten.length ≤ O.length := by
 have h := nodup_size ((O.filter fun t => decide (t ∉ (L.filter g).flatten)) ++ (L.filter g).flatten) O (by
  rw [List.nodup_append]
  refine ⟨(up_nodup hu).filter _, hL.flat_nodup g, fun a ha b hb e => ?_⟩
  subst e
  exact of_decide_eq_true (List.mem_filter.mp ha).2 hb) (fun x hx => by
  rcases List.mem_append.mp hx with q | q
  ·exact (List.mem_filter.mp q).1
  ·exact ((hL.of_kind g).mp q).1)
 rwa [List.length_append] at h
theorem none_goes (hL : IsParts fx O L) {g : Tr → Bool} (h : (L.filter fun p => p.any g).flatten.length = 0) : (O.filter fun t => decide (t ∉ (L.filter fun p => p.any g).flatten)) = O ∧ ∀ t ∈ O, g t = false := by
 have e := List.length_eq_zero_iff.mp h
 refine ⟨?_, fun t ht => ?_⟩
 ·rw [e]
  exact List.filter_eq_self.mpr fun t _ => by simp
 ·obtain ⟨p, hp, htp⟩ := hL.all t ht
  cases hg : g t with
  | false => rfl
  | true =>
   have : t ∈ (L.filter fun p => p.any g).flatten := List.mem_flatten.mpr ⟨p, List.mem_filter.mpr ⟨hp, List.any_eq_true.mpr ⟨t, htp, hg⟩⟩, htp⟩
   rw [e] at this
   cases this
theorem goes_none (hL : IsParts fx O L) {g : Tr → Bool} (h : ∀ t ∈ O, g t = false) : (L.filter fun p => p.any g).flatten.length = 0 := by
 have e : (L.filter fun p => p.any g) = [] := List.filter_eq_nil_iff.mpr fun p hp hg => by
  obtain ⟨t, ht, h1⟩ := List.any_eq_true.mp hg
  rw [h t (hL.part p hp t ht).1] at h1
  cases h1
 rw [e]
 rfl
theorem idx_no {α : Type} {p : α → Bool} : ∀ (l : List α) (n : Nat), (∀ x ∈ l, p x = false) → idxF p n l = -1
 | [], _, _ => rfl
 | x :: l, n, h => by rw [idxF, h x (by simp), if_neg (by decide)]; exact idx_no l (n + 1) fun y hy => h y (by simp [hy])
theorem spread_none (hL : IsParts fx O L) (h : ∀ t ∈ O, lp.any (liesB l t) = false) : O.map (spreadI l lp L) = O.map fun _ => -1 := by
 refine List.map_congr_left fun t ht => ?_
 obtain ⟨p, hp, htp⟩ := hL.all t ht
 unfold spreadI findP
 cases hf : L.find? fun p => decide (t ∈ p) with
 | none => exact absurd (decide_eq_true htp) (by simpa using List.find?_eq_none.mp hf p hp)
 | some q =>
  have hq := List.mem_of_find?_eq_some hf
  show atP l lp q = -1
  unfold atP
  refine idx_no _ _ fun x hx => List.any_eq_false.mpr fun s hs => ?_
  have := List.any_eq_false.mp (h s (hL.part q hq s hs).1) x hx
  exact this
theorem border_fixed (m : Mesh O) (h : ∀ t ∈ O, openB O F t = false) {a b : Int} (h1 : (behind O a b).isSome = true) (h2 : behind O b a = none) : (fixO F a b).isSome = true := by
 obtain ⟨c, hc⟩ := Option.isSome_iff_exists.mp h1
 have ht := m.apx.mp hc
 have he := ed_own a b c
 have h0 := h _ ht
 cases hf : (fixO F a b).isSome with
 | true => rfl
 | false =>
  exfalso
  have ho : edgeOpen O F a b = true := by unfold edgeOpen; rw [h2, hf]; rfl
  unfold openB at h0
  generalize own (a, b, c) = t at *
  obtain ⟨t0, t1, t2⟩ := t
  simp only [eds, List.mem_cons, List.not_mem_nil, or_false, Prod.mk.injEq] at he
  rcases he with ⟨rfl, rfl⟩ | ⟨rfl, rfl⟩ | ⟨rfl, rfl⟩ <;> simp_all
noncomputable def posO (O0 O : List Tr) (i : Nat) : Nat := O0.idxOf (O.getD i (0, 0, 0))
theorem pos_spec {O0 : List Tr} (h0 : Up O0) (h : Up O) (hs : ∀ t ∈ O, t ∈ O0) : (∀ i (hi : i < O.length), ∃ hp : posO O0 O i < O0.length, O0[posO O0 O i] = O[i]) ∧ ∀ i j, i < j → j < O.length → posO O0 O i < posO O0 O j := by
 have key : ∀ i (hi : i < O.length), ∃ hp : posO O0 O i < O0.length, O0[posO O0 O i] = O[i] := fun i hi => by
  have e : O.getD i (0, 0, 0) = O[i] := by rw [List.getD_eq_getElem?_getD, List.getElem?_eq_getElem hi]; rfl
  have hm : O.getD i (0, 0, 0) ∈ O0 := by rw [e]; exact hs _ (List.getElem_mem hi)
  have hl := List.idxOf_lt_length_of_mem hm
  exact ⟨hl, by unfold posO; rw [List.getElem_idxOf hl, e]⟩
 refine ⟨key, fun i j hij hj => ?_⟩
 obtain ⟨p1, e1⟩ := key i (by omega)
 obtain ⟨p2, e2⟩ := key j hj
 have hlt := List.pairwise_iff_getElem.mp h i j (by omega) hj hij
 rw [← e1, ← e2] at hlt
 rcases Nat.lt_trichotomy (posO O0 O i) (posO O0 O j) with q | q | q
 ·exact q
 ·simp only [q] at hlt; exact absurd hlt (lt3_irrefl _)
 ·exact absurd (lt3_trans hlt (List.pairwise_iff_getElem.mp h0 _ _ p2 p1 q)) (lt3_irrefl _)
theorem pos_ne {O0 : List Tr} (h0 : Up O0) {i j : Nat} (hi : i < O0.length) (hj : j < O0.length) (h : i ≠ j) : O0[i] ≠ O0[j] := fun e => by
 rcases Nat.lt_or_gt_of_ne h with q | q
 ·have := List.pairwise_iff_getElem.mp h0 i j hi hj q
  rw [e] at this
  exact lt3_irrefl _ this
 ·have := List.pairwise_iff_getElem.mp h0 j i hj hi q
  rw [e] at this
  exact lt3_irrefl _ this
end
end Go.Proofs.YtaoichlepfiliaaGreatDoor.Msh
end
section
namespace Go.Proofs.YtaoichlepfiliaaGreatDoor.Adm
open Go.RowKit Go.Proofs.YtaoichlepfiliaaGreatDoor.FltP Go.Proofs.YtaoichlepfiliaaGreatDoor.R Go.Proofs.YtaoichlepfiliaaGreatDoor.E Go.Proofs.YtaoichlepfiliaaGreatDoor.O Go.Proofs.YtaoichlepfiliaaGreatDoorW.PrintWords Go.Proofs.YtaoichlepfiliaaGreatDoorW.PrintLast
theorem row_at {w : World} {A : Option Addr} {n : Nat} {xs : List Int} (h : Kd.C (Kd.int .i64) w A n xs) (hn : 0 < n) : ∃ b o, A = some ⟨b, o, none⟩ ∧ ∀ i : Nat, i < n → w.cell? ⟨b, o + i, none⟩ = some (.int .i64 (rd xs (i : Int))) := by
 obtain ⟨ad, rfl, h0⟩ := Kd.at_int h ((0 : Nat) : Int) (by omega) (by omega)
 obtain ⟨b, o, sp⟩ := ad
 have hsp : sp = none := by simpa [Addr.add] using World.cell?_spot h0
 subst hsp
 refine ⟨b, o, rfl, fun i hi => ?_⟩
 obtain ⟨ad', e, h1⟩ := Kd.at_int h (i : Int) (by omega) (by omega)
 injection e with e
 subst e
 rw [Int.toNat_natCast, Addr.add_lit] at h1
 exact h1
theorem wrapI (n : Int) (h0 : -9223372036854775808 ≤ n) (h1 : n ≤ 9223372036854775807) : IntKind.i64.wrap n = n := by
 simp only [IntKind.wrap]; simp [IntKind.signed, IntKind.bits]; omega
end Go.Proofs.YtaoichlepfiliaaGreatDoor.Adm
end
