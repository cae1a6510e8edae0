/- Lemmas of Rfh. Conditions stand in each. -/
import Derived.Test.YtaoichlepfiliaaGreatDoorQXRfe
import Derived.Test.YtaoichlepfiliaaGreatDoorQXMds
set_option linter.unusedSimpArgs false
set_option linter.unusedVariables false
section
namespace Go.Proofs.YtaoichlepfiliaaGreatDoor.Msh
open Go.RowKit Go.Sort Go.ChangeMaps Go.MapKept Go.Proofs.YtaoichlepfiliaaGreatDoor.Mp Go.Proofs.YtaoichlepfiliaaGreatDoor.Adm Go.Proofs.YtaoichlepfiliaaGreatDoor.Kfl Go.Proofs.YtaoichlepfiliaaGreatDoor.R Go.Proofs.YtaoichlepfiliaaGreatDoor.E Go.Proofs.YtaoichlepfiliaaGreatDoorW.PrintWords Go.Proofs.YtaoichlepfiliaaGreatDoorW.PrintLast
theorem infoSg : (Tryz.prog.info? 78).map (fun i => (i.zero, i.size, i.bytes)) = some (some (.agg #[.int .i64 0, .int .i64 0, .int .i64 0]), 3, 24) := by kernel_rfl
theorem loose_take {F : List Tr} {x y : Int} {i : Nat} (hi : i < F.length) : loose x y (F.take (i + 1)) = if F[i].1 = x ∧ F[i].2.1 = y then loose x y (F.take i) else loose x y (F.take i) ++ [F[i]] := by
 unfold loose
 rw [List.take_succ_eq_append_getElem hi, List.filter_append]
 split
 ·rename_i h
  simp [h.1, h.2]
 ·rename_i h
  rw [List.filter_cons_of_pos (by simpa [Decidable.or_iff_not_not_and_not] using h)]
  rfl
theorem flat_new {α : Type} {d : Kd α} {enc : α → List Value} (F : Flat d enc) {e base : Nat} {W : World} {X : Nat → Prop} {v : Value} {xs : List α} (h : d.R e W base anyB v xs) : d.R e W 0 (fun k => X k ∨ base ≤ k) v xs := F.row.mpr ⟨fun k hk => .inr ((flat_lrow F h).lt k hk).1, ((flat_lrow F h).rebase (Nat.zero_le _)).own⟩
theorem loose_len (x y : Int) (F : List Tr) : (loose x y F).length ≤ F.length := List.length_filter_le _ _
section
variable {w : World} {xb : Nat} {l : List S} {T F : List Tr} {X : Nat → Prop} {a b c : Int}
set_option maxRecDepth 100000 in
set_option maxHeartbeats 8000000 in
theorem rloose_call (h : RefAt w xb l T F X) (hz : F.length ≤ 1000000) (a b : Int) : Calls Tryz.prog 72 #[ptr xb, .int .i64 a, .int .i64 b] w fun e w' => ∃ r X', e = .returned (.bool r) ∧ RefAt w' xb l T (loose (min a b) (max a b) F) X' ∧ Fr X w w' ∧ (∀ k, X k → X' k) ∧ ∀ k, X' k → X k ∨ w.heap.size ≤ k := by
 obtain ⟨A, cap, vT, vF, hI⟩ := h
 obtain ⟨AF, cF, rfl⟩ := Kd.R_slice hI.seg
 obtain ⟨-, -, hC⟩ := Kd.R_reads' hI.seg
 have z2 : w.cell? ⟨xb, 2, none⟩ = some (.slice AF F.length cF) := by rw [blk_cell hI.blk]; rfl
 have HI := Aside0.mk hI
 have HZ := Aside0.mk hz
 clear hI
 go_enter Tryz.func72, Tryz.ntmps72
 go_wp2
 go_loopw [7, 8] (fun v7 v8 wr => ∃ i : Nat, v8 = .int .i64 i ∧ i ≤ F.length ∧ kTr.R 78 wr w.heap.size anyB v7 (loose (min a b) (max a b) (F.take i)) ∧ Below w.heap.size w wr) (fun _ v8 _ => F.length - (intOf v8).toNat)
 case atStart => exact ⟨0, rfl, Nat.zero_le _, Kd.R_nil _ _ _ _ _, Below.refl _ _⟩
 case round =>
  obtain ⟨i, rfl, hi, hR, hB⟩ := hrel
  replace z2 := bcell hB z2
  by_cases hlt : i < F.length
  ·obtain ⟨ad, rfl, x0, x1, x2⟩ := at_tr hC hlt hlt
   replace x0 := bcell hB x0
   replace x1 := bcell hB x1
   replace x2 := bcell hB x2
   have d1 : decide ((i : Int) < (F.length : Int)) = true := by simp; omega
   have d2 : decide (i < F.length) = true := decide_eq_true hlt
   have i1 : IntKind.i64.wrap ((i : Int) + 1) = (i : Int) + 1 := wrapN (by omega) (by omega)
   have HTK := Aside0.mk (loose_take (x := min a b) (y := max a b) hlt)
   have hle := loose_len (min a b) (max a b) (F.take i)
   have HLE : Aside0 (((loose (min a b) (max a b) (F.take i)).length + 1) * 24 ≤ 140737488355328) := ⟨by rw [List.length_take] at hle; omega⟩
   clear hle
   generalize hp : F[i] = p at *
   have HP := Aside0.mk hp
   clear hp
   obtain ⟨x, y, z⟩ := p
   simp only at x0 x1 x2
   have hB2 := Below.refl wr.heap.size wr
   by_cases e1 : x = min a b
   ·have c1 : decide (x = min a b) = true := decide_eq_true e1
    have c2 : (x != min a b) = false := by simpa using e1
    by_cases e2 : y = max a b
    ·have c3 : decide (y = max a b) = true := decide_eq_true e2
     have c4 : (y != max a b) = false := by simpa using e2
     have HQ : Aside0 (loose (min a b) (max a b) (F.take (i + 1)) = loose (min a b) (max a b) (F.take i)) := ⟨by rw [HTK.out, if_pos ⟨e1, e2⟩]⟩
     clear e1 e2 HTK
     go_wp2
     go_roundw
     case rel => exact ⟨i + 1, by go_num, by omega, by rw [HQ.out]; exact hR, hB⟩
     case measure => simp [intOf]; omega
    ·have c3 : decide (y = max a b) = false := decide_eq_false e2
     have c4 : (y != max a b) = true := by simpa using e2
     have HQ : Aside0 (loose (min a b) (max a b) (F.take (i + 1)) = loose (min a b) (max a b) (F.take i) ++ [(x, y, z)]) := ⟨by rw [HTK.out, if_neg (fun h => e2 h.2)]⟩
     clear e1 e2 HTK
     go_wp2_with (refine wp_addB flatT (w0 := w) (base := w.heap.size) rfl (.tmp 45) (.tmp 53) 24 78 (.agg #[.int .i64 0, .int .i64 0, .int .i64 0]) 24 rfl Tryz.underlying24 infoSg rfl (by decide) (by decide) (x, y, z) rfl (by simp [Act.eval]) rfl hR hB hB.size HLE.out ?_; intro v2 w2 hR2 hB3)
     go_roundw
     case rel => exact ⟨i + 1, by go_num, by omega, by rw [HQ.out]; exact hR2, hB3⟩
     case measure => simp [intOf]; omega
   ·have c1 : decide (x = min a b) = false := decide_eq_false e1
    have c2 : (x != min a b) = true := by simpa using e1
    have HQ : Aside0 (loose (min a b) (max a b) (F.take (i + 1)) = loose (min a b) (max a b) (F.take i) ++ [(x, y, z)]) := ⟨by rw [HTK.out, if_neg (fun h => e1 h.1)]⟩
    clear e1 HTK
    go_wp2_with (refine wp_addB flatT (w0 := w) (base := w.heap.size) rfl (.tmp 45) (.tmp 53) 24 78 (.agg #[.int .i64 0, .int .i64 0, .int .i64 0]) 24 rfl Tryz.underlying24 infoSg rfl (by decide) (by decide) (x, y, z) rfl (by simp [Act.eval]) rfl hR hB hB.size HLE.out ?_; intro v2 w2 hR2 hB3)
    go_roundw
    case rel => exact ⟨i + 1, by go_num, by omega, by rw [HQ.out]; exact hR2, hB3⟩
    case measure => simp [intOf]; omega
  ·have d1 : decide ((i : Int) < (F.length : Int)) = false := by simp; omega
   have d2 : decide (i < F.length) = false := decide_eq_false hlt
   rw [List.take_of_length_le (by omega)] at hR
   obtain ⟨A7, c7, rfl⟩ := Kd.R_slice hR
   have hIr := HI.out.below hB
   have y1 := blk_cell hIr.blk 2
   have y2 := blk_frozen hIr.blk 2
   have HIR := Aside0.mk hIr
   clear hIr
   generalize hn : (loose (min a b) (max a b) F).length = n at *
   go_wp2
   go_ret
   obtain ⟨h1, h2⟩ := HI.out.new_seg (flat_new flatT hR) hB
   exact ⟨_, _, rfl, h1, h2, fun k hk => ⟨.inl hk, Nat.lt_of_lt_of_le (HI.out.old k hk) hB.size⟩, fun k hk => hk.1⟩
end
theorem put2_at {t : Tr} : ∀ {l : List Tr} {k : Nat}, (∀ x ∈ l.take k, lt2 x t) → (∀ h : k < l.length, ¬ lt2 l[k] t) → put2 t l = l.take k ++ t :: l.drop k
 | [], k, _, _ => by simp [put2]
 | x :: l, 0, _, h => by
  have hx : ¬ lt2 x t := h (by simp)
  rw [put2, if_neg hx]
  rfl
 | x :: l, k + 1, h, h2 => by
  have hx : lt2 x t := h x (by simp)
  rw [put2, if_pos hx, put2_at (k := k) (fun y hy => h y (by simp [hy])) (fun q => h2 (by simpa using q))]
  rfl
theorem take_lt2 {t : Tr} {l : List Tr} {k : Nat} (h : ∀ x ∈ l.take k, lt2 x t) (hk : k < l.length) (q : lt2 l[k] t) : ∀ x ∈ l.take (k + 1), lt2 x t := fun x hx => by
 rw [List.take_succ_eq_append_getElem hk] at hx
 rcases List.mem_append.mp hx with p | p
 ·exact h x p
 ·rw [List.mem_singleton.mp p]; exact q
section
variable {w : World} {xb : Nat} {l : List S} {T F : List Tr} {X : Nat → Prop}
def RFixPost (w : World) (xb : Nat) (l : List S) (T F : List Tr) (X : Nat → Prop) (a b cm : Int) (e : Ending) (w' : World) : Prop :=
 e = .returned (.int .i64 (fixE l a b)) ∧ ∃ X', RefAt w' xb l T (fixF l F a b cm) X' ∧ Fr X w w' ∧ (∀ k, X k → X' k) ∧ ∀ k, X' k → X k ∨ w.heap.size ≤ k
set_option maxRecDepth 100000 in
set_option maxHeartbeats 16000000 in
theorem rfix_call (h : RefAt w xb l T F X) (hz : F.length ≤ 1000000) (a b cm : Int) : Calls Tryz.prog 37 #[ptr xb, .int .i64 a, .int .i64 b, .int .i64 cm] w (RFixPost w xb l T F X a b cm) := by
 have ha1 := rhas_call h a
 have hb1 := rhas_call h b
 by_cases h1 : hasN l a = true
 ·rw [h1] at ha1
  by_cases h2 : hasN l b = true
  ·rw [h2] at hb1
   by_cases h3 : a = b
   ·have e1 : fixE l a b = 1 := by unfold fixE; rw [h1, h2, if_neg (by decide), if_pos h3]
    have e2 : fixF l F a b cm = F := by unfold fixF; rw [e1, if_neg (by decide)]
    have HE := Aside0.mk (And.intro e1 (And.intro e2 h))
    subst h3
    have d1 : (a == a) = true := by simp
    clear e1 e2 h h1 h2 hb1
    go_enter Tryz.func37, Tryz.ntmps37
    go_wp2_with (go_at_call 69; (with_reducible refine ha1.mono ?_); rintro u_ w5 ⟨rfl, rfl⟩)
    go_ret
    exact ⟨by rw [HE.out.1]; rfl, X, by rw [HE.out.2.1]; exact HE.out.2.2, Fr.refl _ _, fun _ q => q, fun _ q => .inl q⟩
   ·have e1 : fixE l a b = 0 := by unfold fixE; rw [h1, h2, if_neg (by decide), if_neg h3]
    have e2 : fixF l F a b cm = put2 (min a b, max a b, cm) (loose (min a b) (max a b) F) := by unfold fixF; rw [e1, if_pos rfl]
    have d1 : (a == b) = false := beq_eq_false_iff_ne.mpr h3
    have d2 : decide (a = b) = false := decide_eq_false h3
    have hlo := rloose_call h hz a b
    have hll := loose_len (min a b) (max a b) F
    unfold RFixPost
    rw [e1]
    have HFF := Aside0.mk e2
    clear e1 e2 h h1 h2 h3
    obtain ⟨x, hx⟩ : ∃ x, x = min a b := ⟨_, rfl⟩
    obtain ⟨y, hy⟩ : ∃ y, y = max a b := ⟨_, rfl⟩
    rw [← hx, ← hy] at hlo HFF hll
    have HL : Aside0 ((loose x y F).length ≤ 1000000) := ⟨by omega⟩
    clear hll
    generalize loose x y F = L at *
    go_enter Tryz.func37, Tryz.ntmps37
    go_upto_region 7 with (first
     | (go_at_call 69; (with_reducible refine ha1.mono ?_); rintro u_ w6 ⟨rfl, rfl⟩)
     | (go_at_call 69; (with_reducible refine hb1.mono ?_); rintro u_ w6 ⟨rfl, rfl⟩)
     | (go_at_call 72; (with_reducible refine hlo.mono ?_); rintro u_ w5 ⟨r5, X5, rfl, hA5, hF5⟩))
    rw [← hx, ← hy]
    clear hx hy ha1 hb1 hlo d1 d2
    obtain ⟨A, cap, vT, vF, hI5⟩ := hA5
    obtain ⟨AF, cF, rfl⟩ := Kd.R_slice hI5.seg
    obtain ⟨W6, hW6⟩ : ∃ W6, W6 = w5.alloc (.cells #[.int .i64 x, .int .i64 y, .int .i64 cm] 78) := ⟨_, rfl⟩
    have hB6 : Below w5.heap.size w5 W6 := by rw [hW6]; exact below_alloc (Below.refl _ _) _
    have hbx : W6.heap[w5.heap.size]? = some (.cells #[.int .i64 x, .int .i64 y, .int .i64 cm] 78 (0, 0)) := by rw [hW6]; exact blk_new _ _
    rw [← hW6]
    clear hW6
    have HF5 := Aside0.mk hF5
    have HB6 := Aside0.mk hB6
    have hI6 := hI5.below hB6
    have HI6 := Aside0.mk hI6
    have z6 : W6.cell? ⟨xb, 2, none⟩ = some (.slice AF L.length cF) := by rw [blk_cell hI6.blk]; rfl
    obtain ⟨-, hcF, hC6⟩ := Kd.R_reads' hI6.seg
    clear hF5 hB6 hI5 hI6
    generalize hB5 : w5.heap.size = B5 at hbx ⊢
    clear hB5
    go_wp2
    go_loopw [10] (fun v10 wr => ∃ j : Nat, j ≤ L.length ∧ v10 = .int .i64 j ∧ Below W6.heap.size W6 wr ∧ Aside0 (∀ s ∈ L.take j, lt2 s (x, y, cm))) (fun v10 _ => L.length - (intOf v10).toNat)
    case atStart => exact ⟨0, Nat.zero_le _, rfl, Below.refl _ _, ⟨by simp⟩⟩
    case round =>
     obtain ⟨j, hj, rfl, hB2, HQ⟩ := hrel
     have hCo := Kd.C_below hC6 hB2
     have z2 := bcell hB2 z6
     have s0 := bcell hB2 ((blk_cell hbx 0).trans (show _ = some (Value.int .i64 x) from rfl))
     have s1 := bcell hB2 ((blk_cell hbx 1).trans (show _ = some (Value.int .i64 y) from rfl))
     have s2 := bcell hB2 ((blk_cell hbx 2).trans (show _ = some (Value.int .i64 cm) from rfl))
     obtain ⟨hP1, A2, hA2, hP2⟩ := cut_parts (j := j) hCo hj hcF
     have hs1 := cut_hi Tryz.underlying24 infoSg AF L.length cF j hj hcF
     have hs2 := cut_lo Tryz.underlying24 infoSg AF L.length cF j hj hcF
     rw [show kTr.sz = 3 from rfl] at hA2
     rw [← hA2] at hs2
     clear hA2
     have HLT : Aside0 ((L.take j).length ≤ 1000000) := ⟨by have := HL.out; rw [List.length_take]; omega⟩
     have i1 : IntKind.i64.wrap ((j : Int) + 1) = (j : Int) + 1 := wrapN (by omega) (by have := HL.out; omega)
     have HEX0 := Aside0.mk (fun h => put2_at (t := (x, y, cm)) (l := L) (k := j) HQ.out h)
     by_cases hlt : j < L.length
     ·have d5 : decide ((j : Int) < (L.length : Int)) = true := by simp; omega
      have d6 : decide (j < L.length) = true := decide_eq_true hlt
      obtain ⟨ao, rfl, y0, y1, -⟩ := at_tr hCo hlt hlt
      have HNX := Aside0.mk (take_lt2 HQ.out hlt)
      have HEY := Aside0.mk (fun h : ¬ lt2 L[j] (x, y, cm) => HEX0.out (fun _ => h))
      clear HQ HEX0
      have HEX0 := HEY
      clear HEY
      unfold lt2 at HNX HEX0
      simp only at HNX HEX0
      generalize L[j].1 = p at *
      generalize L[j].2.1 = q at *
      by_cases e1 : p < x
      ·have c1 : decide (p < x) = true := decide_eq_true e1
       have HN := Aside0.mk (HNX.out (.inl e1))
       clear e1 HNX
       clear HEX0
       go_upto_region 8 with (fail)
       go_quiet (fail)
       go_wp2
       go_roundw
       case rel => exact ⟨j + 1, by omega, by go_num, pw_below_drewN hB2 _, HN⟩
       case measure => simp [intOf]; omega
      ·have c1 : decide (p < x) = false := decide_eq_false e1
       by_cases e2 : p = x
       ·have c2 : decide (p = x) = true := decide_eq_true e2
        have c3 : (p == x) = true := by simpa using e2
        by_cases e3 : q < y
        ·have c4 : decide (q < y) = true := decide_eq_true e3
         have HN := Aside0.mk (HNX.out (.inr ⟨e2, e3⟩))
         clear e1 e2 e3 HNX
         clear HEX0
         go_upto_region 8 with (fail)
         go_quiet (fail)
         go_wp2
         go_roundw
         case rel => exact ⟨j + 1, by omega, by go_num, pw_below_drewN hB2 _, HN⟩
         case measure => simp [intOf]; omega
        ·have c4 : decide (q < y) = false := decide_eq_false e3
         have HEX := Aside0.mk (HEX0.out (fun h => by omega))
         clear e1 e2 e3 HNX HEX0
         go_upto_region 8 with (fail)
         go_quiet (fail)
         have hB7 := pw_below_drewN hB2 nq
         have q1 := Kd.C_below hP1 (pw_below_drewN (Below.refl wr.heap.size wr) nq)
         have q2 := Kd.C_below hP2 (pw_below_drewN (Below.refl wr.heap.size wr) nq)
         have hI7 := HI6.out.below hB7
         have b0 := bcell hB7 ((blk_cell hbx 0).trans (show _ = some (Value.int .i64 x) from rfl))
         have b1 := bcell hB7 ((blk_cell hbx 1).trans (show _ = some (Value.int .i64 y) from rfl))
         have b2 := bcell hB7 ((blk_cell hbx 2).trans (show _ = some (Value.int .i64 cm) from rfl))
         have z7 : (wr.drewN nq).cell? ⟨xb, 2, none⟩ = some (.slice (some ao) L.length cF) := by rw [blk_cell hI7.blk]; rfl
         have HI7 := Aside0.mk hI7
         have HB7 := Aside0.mk hB7
         clear hB2 hP1 hP2 hI7 hB7 z2 s0 s1 s2 hCo
         generalize wr.drewN nq = W7 at *
         go_wp2_with (first
          | (refine Kd.R_append_rows kTr (w0 := W7) W7.heap.size (by rfl) (.tmp 85) (.tmp 91) 24 78 (.agg #[.int .i64 0, .int .i64 0, .int .i64 0]) 24 rfl Tryz.underlying24 infoSg rfl (by decide) (by omega) (.slice none 0 0) [] (L.take j) _ _ _ (fun _ => True) (fun _ => False) rfl rfl ?aO ?aR (fun _ _ h => h) (fun _ h => h.elim) (fun _ _ => trivial) ?aB ?aS ?aL ?_
             (case aO => exact Kd.R_nil ..)
             (case aR => exact q1)
             (case aB => exact Below.refl _ _)
             (case aS => exact Nat.le_refl _)
             (case aL => simp only [List.length_nil]; have := HLT.out; have := HL.out; omega)
             intro v1 w1 hR1 hB1 hg1 hat1; clear hg1 hat1; rw [List.nil_append] at hR1; have k0 := bcell hB1 b0; have k1 := bcell hB1 b1; have k2 := bcell hB1 b2)
          | (refine wp_addB flatT (w0 := W7) (base := W7.heap.size) rfl (.tmp 93) (.tmp 95) 24 78 (.agg #[.int .i64 0, .int .i64 0, .int .i64 0]) 24 rfl Tryz.underlying24 infoSg rfl (by decide) (by decide) (x, y, cm) rfl (by simp [Act.eval]) rfl hR1 hB1 hB1.size ?aL ?_
             (case aL => have := HLT.out; have := HL.out; omega)
             intro v2 w2 hR2 hB2; have q3 := Kd.C_below q2 hB2; have z8 := bcell hB2 z7; clear hB1 hR1)
          | (refine Kd.R_append_rows kTr (w0 := W7) W7.heap.size (by rfl) (.tmp 98) (.tmp 104) 24 78 (.agg #[.int .i64 0, .int .i64 0, .int .i64 0]) 24 rfl Tryz.underlying24 infoSg rfl (by decide) (by omega) v2 (L.take j ++ [(x, y, cm)]) (L.drop j) _ _ _ (fun _ => True) (fun _ => False) rfl rfl ?aO ?aR (fun _ _ h => h) (fun _ h => h.elim) (fun _ _ => trivial) ?aB ?aS ?aL ?_
             (case aO => exact hR2)
             (case aR => exact q3)
             (case aB => exact hB2)
             (case aS => exact hB2.size)
             (case aL => have := HLT.out; have := HL.out; simp only [List.length_append, List.length_singleton]; omega)
             intro v3 w3 hR3 hB3 hg3 hat3; clear hg3 hat3; rw [show L.take j ++ [(x, y, cm)] ++ L.drop j = put2 (x, y, cm) L from by rw [HEX.out, List.append_assoc]; rfl] at hR3; obtain ⟨A8, c8, rfl⟩ := Kd.R_slice hR3; generalize hn8 : (put2 (x, y, cm) L).length = n8 at hR3 ⊢; have HN8 := Aside0.mk hn8; clear hn8; have hb8 := HI7.out.below hB3; have y1 := blk_cell hb8.blk 2; have y2 := blk_frozen hb8.blk 2; clear hb8))
         go_ret
         obtain ⟨h1, h2⟩ := HI7.out.new_seg (flat_new (X := X5) flatT hR3) hB3
         have hb67 : Below w5.heap.size w5 W7 := HB6.out.trans (HB7.out.mono HB6.out.size)
         refine ⟨rfl, fun k => (X5 k ∨ W7.heap.size ≤ k) ∧ k < w3.heap.size, ?_, HF5.out.1.trans ((Fr.of_below (M := X5) hb67).trans h2 fun _ _ q => q) fun k hk q => (HF5.out.2.2 k q).resolve_right (by omega), fun k hk => ⟨.inl (HF5.out.2.1 k hk), ?_⟩, fun k hk => ?_⟩
         ·rw [HFF.out]; exact h1
         ·exact Nat.lt_of_lt_of_le (HI7.out.old k (HF5.out.2.1 k hk)) hB3.size
         ·rcases hk.1 with q | q
          ·exact HF5.out.2.2 k q
          ·exact .inr (Nat.le_trans (Nat.le_trans HF5.out.1.size hb67.size) q)
       ·have c2 : decide (p = x) = false := decide_eq_false e2
        have c3 : (p == x) = false := by simpa using e2
        have HEX := Aside0.mk (HEX0.out (fun h => by omega))
        clear e1 e2 HNX HEX0
        go_upto_region 8 with (fail)
        go_quiet (fail)
        have hB7 := pw_below_drewN hB2 nq
        have q1 := Kd.C_below hP1 (pw_below_drewN (Below.refl wr.heap.size wr) nq)
        have q2 := Kd.C_below hP2 (pw_below_drewN (Below.refl wr.heap.size wr) nq)
        have hI7 := HI6.out.below hB7
        have b0 := bcell hB7 ((blk_cell hbx 0).trans (show _ = some (Value.int .i64 x) from rfl))
        have b1 := bcell hB7 ((blk_cell hbx 1).trans (show _ = some (Value.int .i64 y) from rfl))
        have b2 := bcell hB7 ((blk_cell hbx 2).trans (show _ = some (Value.int .i64 cm) from rfl))
        have z7 : (wr.drewN nq).cell? ⟨xb, 2, none⟩ = some (.slice (some ao) L.length cF) := by rw [blk_cell hI7.blk]; rfl
        have HI7 := Aside0.mk hI7
        have HB7 := Aside0.mk hB7
        clear hB2 hP1 hP2 hI7 hB7 z2 s0 s1 s2 hCo
        generalize wr.drewN nq = W7 at *
        go_wp2_with (first
         | (refine Kd.R_append_rows kTr (w0 := W7) W7.heap.size (by rfl) (.tmp 85) (.tmp 91) 24 78 (.agg #[.int .i64 0, .int .i64 0, .int .i64 0]) 24 rfl Tryz.underlying24 infoSg rfl (by decide) (by omega) (.slice none 0 0) [] (L.take j) _ _ _ (fun _ => True) (fun _ => False) rfl rfl ?aO ?aR (fun _ _ h => h) (fun _ h => h.elim) (fun _ _ => trivial) ?aB ?aS ?aL ?_
            (case aO => exact Kd.R_nil ..)
            (case aR => exact q1)
            (case aB => exact Below.refl _ _)
            (case aS => exact Nat.le_refl _)
            (case aL => simp only [List.length_nil]; have := HLT.out; have := HL.out; omega)
            intro v1 w1 hR1 hB1 hg1 hat1; clear hg1 hat1; rw [List.nil_append] at hR1; have k0 := bcell hB1 b0; have k1 := bcell hB1 b1; have k2 := bcell hB1 b2)
         | (refine wp_addB flatT (w0 := W7) (base := W7.heap.size) rfl (.tmp 93) (.tmp 95) 24 78 (.agg #[.int .i64 0, .int .i64 0, .int .i64 0]) 24 rfl Tryz.underlying24 infoSg rfl (by decide) (by decide) (x, y, cm) rfl (by simp [Act.eval]) rfl hR1 hB1 hB1.size ?aL ?_
            (case aL => have := HLT.out; have := HL.out; omega)
            intro v2 w2 hR2 hB2; have q3 := Kd.C_below q2 hB2; have z8 := bcell hB2 z7; clear hB1 hR1)
         | (refine Kd.R_append_rows kTr (w0 := W7) W7.heap.size (by rfl) (.tmp 98) (.tmp 104) 24 78 (.agg #[.int .i64 0, .int .i64 0, .int .i64 0]) 24 rfl Tryz.underlying24 infoSg rfl (by decide) (by omega) v2 (L.take j ++ [(x, y, cm)]) (L.drop j) _ _ _ (fun _ => True) (fun _ => False) rfl rfl ?aO ?aR (fun _ _ h => h) (fun _ h => h.elim) (fun _ _ => trivial) ?aB ?aS ?aL ?_
            (case aO => exact hR2)
            (case aR => exact q3)
            (case aB => exact hB2)
            (case aS => exact hB2.size)
            (case aL => have := HLT.out; have := HL.out; simp only [List.length_append, List.length_singleton]; omega)
            intro v3 w3 hR3 hB3 hg3 hat3; clear hg3 hat3; rw [show L.take j ++ [(x, y, cm)] ++ L.drop j = put2 (x, y, cm) L from by rw [HEX.out, List.append_assoc]; rfl] at hR3; obtain ⟨A8, c8, rfl⟩ := Kd.R_slice hR3; generalize hn8 : (put2 (x, y, cm) L).length = n8 at hR3 ⊢; have HN8 := Aside0.mk hn8; clear hn8; have hb8 := HI7.out.below hB3; have y1 := blk_cell hb8.blk 2; have y2 := blk_frozen hb8.blk 2; clear hb8))
        go_ret
        obtain ⟨h1, h2⟩ := HI7.out.new_seg (flat_new (X := X5) flatT hR3) hB3
        have hb67 : Below w5.heap.size w5 W7 := HB6.out.trans (HB7.out.mono HB6.out.size)
        refine ⟨rfl, fun k => (X5 k ∨ W7.heap.size ≤ k) ∧ k < w3.heap.size, ?_, HF5.out.1.trans ((Fr.of_below (M := X5) hb67).trans h2 fun _ _ q => q) fun k hk q => (HF5.out.2.2 k q).resolve_right (by omega), fun k hk => ⟨.inl (HF5.out.2.1 k hk), ?_⟩, fun k hk => ?_⟩
        ·rw [HFF.out]; exact h1
        ·exact Nat.lt_of_lt_of_le (HI7.out.old k (HF5.out.2.1 k hk)) hB3.size
        ·rcases hk.1 with q | q
         ·exact HF5.out.2.2 k q
         ·exact .inr (Nat.le_trans (Nat.le_trans HF5.out.1.size hb67.size) q)
     ·have d5 : decide ((j : Int) < (L.length : Int)) = false := by simp; omega
      have d6 : decide (j < L.length) = false := decide_eq_false hlt
      have HEX := Aside0.mk (HEX0.out (fun h => absurd h hlt))
      clear HQ HEX0
      go_upto_region 8 with (fail)
      go_quiet (fail)
      have hB7 := pw_below_drewN hB2 nq
      have q1 := Kd.C_below hP1 (pw_below_drewN (Below.refl wr.heap.size wr) nq)
      have q2 := Kd.C_below hP2 (pw_below_drewN (Below.refl wr.heap.size wr) nq)
      have hI7 := HI6.out.below hB7
      have b0 := bcell hB7 ((blk_cell hbx 0).trans (show _ = some (Value.int .i64 x) from rfl))
      have b1 := bcell hB7 ((blk_cell hbx 1).trans (show _ = some (Value.int .i64 y) from rfl))
      have b2 := bcell hB7 ((blk_cell hbx 2).trans (show _ = some (Value.int .i64 cm) from rfl))
      have z7 : (wr.drewN nq).cell? ⟨xb, 2, none⟩ = some (.slice AF L.length cF) := by rw [blk_cell hI7.blk]; rfl
      have HI7 := Aside0.mk hI7
      have HB7 := Aside0.mk hB7
      clear hB2 hP1 hP2 hI7 hB7 z2 s0 s1 s2 hCo
      generalize wr.drewN nq = W7 at *
      go_wp2_with (first
       | (refine Kd.R_append_rows kTr (w0 := W7) W7.heap.size (by rfl) (.tmp 85) (.tmp 91) 24 78 (.agg #[.int .i64 0, .int .i64 0, .int .i64 0]) 24 rfl Tryz.underlying24 infoSg rfl (by decide) (by omega) (.slice none 0 0) [] (L.take j) _ _ _ (fun _ => True) (fun _ => False) rfl rfl ?aO ?aR (fun _ _ h => h) (fun _ h => h.elim) (fun _ _ => trivial) ?aB ?aS ?aL ?_
          (case aO => exact Kd.R_nil ..)
          (case aR => exact q1)
          (case aB => exact Below.refl _ _)
          (case aS => exact Nat.le_refl _)
          (case aL => simp only [List.length_nil]; have := HLT.out; have := HL.out; omega)
          intro v1 w1 hR1 hB1 hg1 hat1; clear hg1 hat1; rw [List.nil_append] at hR1; have k0 := bcell hB1 b0; have k1 := bcell hB1 b1; have k2 := bcell hB1 b2)
       | (refine wp_addB flatT (w0 := W7) (base := W7.heap.size) rfl (.tmp 93) (.tmp 95) 24 78 (.agg #[.int .i64 0, .int .i64 0, .int .i64 0]) 24 rfl Tryz.underlying24 infoSg rfl (by decide) (by decide) (x, y, cm) rfl (by simp [Act.eval]) rfl hR1 hB1 hB1.size ?aL ?_
          (case aL => have := HLT.out; have := HL.out; omega)
          intro v2 w2 hR2 hB2; have q3 := Kd.C_below q2 hB2; have z8 := bcell hB2 z7; clear hB1 hR1)
       | (refine Kd.R_append_rows kTr (w0 := W7) W7.heap.size (by rfl) (.tmp 98) (.tmp 104) 24 78 (.agg #[.int .i64 0, .int .i64 0, .int .i64 0]) 24 rfl Tryz.underlying24 infoSg rfl (by decide) (by omega) v2 (L.take j ++ [(x, y, cm)]) (L.drop j) _ _ _ (fun _ => True) (fun _ => False) rfl rfl ?aO ?aR (fun _ _ h => h) (fun _ h => h.elim) (fun _ _ => trivial) ?aB ?aS ?aL ?_
          (case aO => exact hR2)
          (case aR => exact q3)
          (case aB => exact hB2)
          (case aS => exact hB2.size)
          (case aL => have := HLT.out; have := HL.out; simp only [List.length_append, List.length_singleton]; omega)
          intro v3 w3 hR3 hB3 hg3 hat3; clear hg3 hat3; rw [show L.take j ++ [(x, y, cm)] ++ L.drop j = put2 (x, y, cm) L from by rw [HEX.out, List.append_assoc]; rfl] at hR3; obtain ⟨A8, c8, rfl⟩ := Kd.R_slice hR3; generalize hn8 : (put2 (x, y, cm) L).length = n8 at hR3 ⊢; have HN8 := Aside0.mk hn8; clear hn8; have hb8 := HI7.out.below hB3; have y1 := blk_cell hb8.blk 2; have y2 := blk_frozen hb8.blk 2; clear hb8))
      go_ret
      obtain ⟨h1, h2⟩ := HI7.out.new_seg (flat_new (X := X5) flatT hR3) hB3
      have hb67 : Below w5.heap.size w5 W7 := HB6.out.trans (HB7.out.mono HB6.out.size)
      refine ⟨rfl, fun k => (X5 k ∨ W7.heap.size ≤ k) ∧ k < w3.heap.size, ?_, HF5.out.1.trans ((Fr.of_below (M := X5) hb67).trans h2 fun _ _ q => q) fun k hk q => (HF5.out.2.2 k q).resolve_right (by omega), fun k hk => ⟨.inl (HF5.out.2.1 k hk), ?_⟩, fun k hk => ?_⟩
      ·rw [HFF.out]; exact h1
      ·exact Nat.lt_of_lt_of_le (HI7.out.old k (HF5.out.2.1 k hk)) hB3.size
      ·rcases hk.1 with q | q
       ·exact HF5.out.2.2 k q
       ·exact .inr (Nat.le_trans (Nat.le_trans HF5.out.1.size hb67.size) q)
  ·have q2 : hasN l b = false := by simpa using h2
   have e1 : fixE l a b = 11 := by unfold fixE; rw [h1, q2]; rfl
   have e2 : fixF l F a b cm = F := by unfold fixF; rw [e1, if_neg (by decide)]
   have HE := Aside0.mk (And.intro e1 (And.intro e2 h))
   rw [q2] at hb1
   clear e1 e2 h h1 h2 q2
   go_enter Tryz.func37, Tryz.ntmps37
   go_wp2_with (first | (go_at_call 69; (with_reducible refine ha1.mono ?_); rintro u_ w5 ⟨rfl, rfl⟩) | (go_at_call 69; (with_reducible refine hb1.mono ?_); rintro u_ w5 ⟨rfl, rfl⟩))
   go_ret
   exact ⟨by rw [HE.out.1]; rfl, X, by rw [HE.out.2.1]; exact HE.out.2.2, Fr.refl _ _, fun _ q => q, fun _ q => .inl q⟩
 ·have q1 : hasN l a = false := by simpa using h1
  have e1 : fixE l a b = 11 := by unfold fixE; rw [q1]; rfl
  have e2 : fixF l F a b cm = F := by unfold fixF; rw [e1, if_neg (by decide)]
  have HE := Aside0.mk (And.intro e1 (And.intro e2 h))
  rw [q1] at ha1
  clear e1 e2 h h1 q1 hb1
  go_enter Tryz.func37, Tryz.ntmps37
  go_wp2_with (go_at_call 69; (with_reducible refine ha1.mono ?_); rintro u_ w5 ⟨rfl, rfl⟩)
  go_ret
  exact ⟨by rw [HE.out.1]; rfl, X, by rw [HE.out.2.1]; exact HE.out.2.2, Fr.refl _ _, fun _ q => q, fun _ q => .inl q⟩
end
end Go.Proofs.YtaoichlepfiliaaGreatDoor.Msh
end
