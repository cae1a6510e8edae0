/- Lemmas of Rfj. Conditions stand in each. -/
import Derived.Test.YtaoichlepfiliaaGreatDoorQXRfh
import Derived.ChangeKeysEq
import Derived.Test.YtaoichlepfiliaaGreatDoorQXMcm
set_option linter.unusedSimpArgs false
set_option linter.unusedVariables false
section
namespace Go.Proofs.YtaoichlepfiliaaGreatDoor.Msh
open Go.RowKit Go.Sort Go.ChangeMaps Go.MapKept Go.Proofs.YtaoichlepfiliaaGreatDoor.Mp Go.Proofs.YtaoichlepfiliaaGreatDoor.Adm Go.Proofs.YtaoichlepfiliaaGreatDoor.Kfl Go.Proofs.YtaoichlepfiliaaGreatDoor.R Go.Proofs.YtaoichlepfiliaaGreatDoor.E Go.Proofs.YtaoichlepfiliaaGreatDoorW.PrintWords Go.Proofs.YtaoichlepfiliaaGreatDoorW.PrintLast
structure Bt (W1 wr : World) (mb xb : Nat) (l : List S) (O F T FX : List Tr) (M X : Nat → Prop) : Prop where
 m : MeshAt wr mb l O F M
 x : RefAt wr xb l T FX X
 dj : ∀ k, X k → ¬ M k
 hm : ∀ k, M k → W1.heap.size ≤ k
 hx : ∀ k, X k → W1.heap.size ≤ k
 b : Below W1.heap.size W1 wr
section
variable {W1 wr W w5 : World} {mb xb : Nat} {l : List S} {O F T FX : List Tr} {M X : Nat → Prop}
theorem Bt.below (h : Bt W1 wr mb xb l O F T FX M X) (hb : Below wr.heap.size wr W) : Bt W1 W mb xb l O F T FX M X := ⟨h.m.below hb, h.x.below hb, h.dj, h.hm, h.hx, h.b.trans (hb.mono h.b.size)⟩
theorem Bt.on_m {O' F' : List Tr} {M' : Nat → Prop} (h : Bt W1 wr mb xb l O F T FX M X) (hm : MeshAt w5 mb l O' F' M') (hf : Fr M wr w5) (hn : ∀ k, M' k → M k ∨ wr.heap.size ≤ k) : Bt W1 w5 mb xb l O' F' T FX M' X :=
 ⟨hm, h.x.fr hf h.dj, fun k hk q => by
  rcases hn k q with q | q
  ·exact h.dj k hk q
  ·exact absurd (h.x.old k hk) (Nat.not_lt.mpr q), fun k hk => by
  rcases hn k hk with q | q
  ·exact h.hm k q
  ·exact Nat.le_trans h.b.size q, h.hx, h.b.trans (hf.below h.hm h.b.size)⟩
theorem Bt.on_x {T' F' : List Tr} {X' : Nat → Prop} (h : Bt W1 wr mb xb l O F T FX M X) (hx : RefAt w5 xb l T' F' X') (hf : Fr X wr w5) (hn : ∀ k, X' k → X k ∨ wr.heap.size ≤ k) : Bt W1 w5 mb xb l O F T' F' M X' :=
 ⟨h.m.fr hf (fun k hk q => h.dj k q hk), hx, fun k hk q => by
  rcases hn k hk with p | p
  ·exact h.dj k p q
  ·exact absurd (h.m.old k q) (Nat.not_lt.mpr p), h.hm, fun k hk => by
  rcases hn k hk with q | q
  ·exact h.hx k q
  ·exact Nat.le_trans h.b.size q, h.b.trans (hf.below h.hx h.b.size)⟩
theorem put2_len (t : Tr) : ∀ l : List Tr, (put2 t l).length = l.length + 1
 | [] => rfl
 | x :: l => by
  unfold put2
  split
  ·simp [put2_len t l]
  ·simp
theorem fixF_len (l : List S) (F : List Tr) (a b c : Int) : (fixF l F a b c).length ≤ F.length + 1 := by
 unfold fixF
 split
 ·rw [put2_len]; have := loose_len (min a b) (max a b) F; omega
 ·omega
theorem refO_len (l : List S) (T : List Tr) (t : Tr) : (refO l T t).length ≤ T.length + 1 := by
 unfold refO
 split
 ·simp
 ·omega
theorem foldT_len (l : List S) (Ts : List Tr) : (bothT l Ts).length ≤ Ts.length := by
 have : ∀ (Ts T : List Tr), (Ts.foldl (refO l) T).length ≤ T.length + Ts.length := fun Ts => by
  induction Ts with
  | nil => intro T; simp
  | cons t Ts ih => intro T; have := ih (refO l T t); have := refO_len l T t; simp only [List.foldl_cons, List.length_cons]; omega
 have h := this Ts []
 simpa [bothT] using h
theorem foldF_len (l : List S) (Fs : List Tr) : (bothF l Fs).length ≤ Fs.length := by
 have : ∀ (Fs F : List Tr), (Fs.foldl (fun F t => fixF l F t.1 t.2.1 t.2.2) F).length ≤ F.length + Fs.length := fun Fs => by
  induction Fs with
  | nil => intro F; simp
  | cons t Fs ih => intro F; have := ih (fixF l F t.1 t.2.1 t.2.2); have := fixF_len l F t.1 t.2.1 t.2.2; simp only [List.foldl_cons, List.length_cons]; omega
 have h := this Fs []
 simpa [bothF] using h
theorem bothO_take {l : List S} {Ts : List Tr} {i : Nat} (h : i < Ts.length) : bothO l (Ts.take (i + 1)) = makeO l (bothO l (Ts.take i)) Ts[i] := by unfold bothO; rw [List.take_succ_eq_append_getElem h, List.foldl_append]; rfl
theorem bothT_take {l : List S} {Ts : List Tr} {i : Nat} (h : i < Ts.length) : bothT l (Ts.take (i + 1)) = refO l (bothT l (Ts.take i)) Ts[i] := by unfold bothT; rw [List.take_succ_eq_append_getElem h, List.foldl_append]; rfl
theorem bothF_take {l : List S} {Fs : List Tr} {i : Nat} (h : i < Fs.length) : bothF l (Fs.take (i + 1)) = fixF l (bothF l (Fs.take i)) Fs[i].1 Fs[i].2.1 Fs[i].2.2 := by unfold bothF; rw [List.take_succ_eq_append_getElem h, List.foldl_append]; rfl
end
def BothPost (l : List S) (Ts Fs : List Tr) (w : World) (e : Ending) (w' : World) : Prop :=
 ((allF l).2 ≠ 0 ∧ e = .returned (.tuple #[.pointer none, .pointer none]) ∧ Below w.heap.size w w') ∨ ((allF l).2 = 0 ∧ ∃ mb xb M X, e = .returned (.tuple #[ptr mb, ptr xb]) ∧ Bt w w' mb xb l (bothO l Ts) (bothF l Fs) (bothT l Ts) (bothF l Fs) M X)
theorem Bt.base {W0 W1 wr : World} {mb xb : Nat} {l : List S} {O F T FX : List Tr} {M X : Nat → Prop} (h : Bt W1 wr mb xb l O F T FX M X) (hb : Below W0.heap.size W0 W1) : Bt W0 wr mb xb l O F T FX M X := ⟨h.m, h.x, h.dj, fun k hk => Nat.le_trans hb.size (h.hm k hk), fun k hk => Nat.le_trans hb.size (h.hx k hk), hb.trans (h.b.mono hb.size)⟩
set_option maxRecDepth 100000 in
set_option maxHeartbeats 16000000 in
theorem both_call (AP : Option Addr) (cP : Nat) (l : List S) (AT : Option Addr) (cT : Nat) (Ts : List Tr) (AF : Option Addr) (cF : Nat) (Fs : List Tr) (w : World) (hP : Kd.C k71 w AP l.length l) (hcP : l.length ≤ cP) (hw : Wd l) (hT : Kd.C kTr w AT Ts.length Ts) (hF : Kd.C kTr w AF Fs.length Fs) (hzT : Ts.length ≤ 1000) (hzF : Fs.length ≤ 1000) (hok : ∀ t ∈ Fs, W64 t.1 ∧ W64 t.2.1) :
 Calls Tryz.prog 9 #[.agg #[.slice AP l.length cP, .slice AT Ts.length cT, .slice AF Fs.length cF]] w (BothPost l Ts Fs w) := by
 obtain ⟨W1, hW1⟩ : ∃ W1, W1 = w.alloc (.cells #[.slice AP l.length cP, .slice AT Ts.length cT, .slice AF Fs.length cF] 26) := ⟨_, rfl⟩
 have hB1 : Below w.heap.size w W1 := by rw [hW1]; exact below_alloc (Below.refl _ _) _
 have hbx : W1.heap[w.heap.size]? = some (.cells #[.slice AP l.length cP, .slice AT Ts.length cT, .slice AF Fs.length cF] 26 (0, 0)) := by rw [hW1]; exact blk_new _ _
 have hP1 := Kd.C_below hP hB1
 have hT1 := Kd.C_below hT hB1
 have hF1 := Kd.C_below hF hB1
 have hnm := new_call AP cP l W1 hP1 hcP hw
 have hnx := fun W (hW : Below W1.heap.size W1 W) => rnew_call AP cP l W (Kd.C_below hP1 hW) hcP hw
 have c0 := (blk_cell hbx 0).trans (show _ = some (Value.slice AP l.length cP) from rfl)
 have c1 := (blk_cell hbx 1).trans (show _ = some (Value.slice AT Ts.length cT) from rfl)
 have c2 := (blk_cell hbx 2).trans (show _ = some (Value.slice AF Fs.length cF) from rfl)
 have HB1 := Aside0.mk hB1
 have HZ := Aside0.mk (And.intro hzT (And.intro hzF hok))
 clear hP hT hF hP1 hbx hok hB1
 by_cases h0 : (allF l).2 = 0
 ·have hnm2 := hnm.mono (R' := fun e w' => Below W1.heap.size W1 w' ∧ ∃ mb M, e = .returned (.tuple #[ptr mb, .int .i64 0]) ∧ MeshAt w' mb l [] [] M ∧ ∀ k, M k → W1.heap.size ≤ k) (fun e w' ⟨hb, h⟩ => ⟨hb, by
   rcases h with ⟨q, -⟩ | ⟨-, h⟩
   ·exact absurd h0 q
   ·exact h⟩)
  have hnx2 := fun W hW => (hnx W hW).mono (R' := fun e w' => Below W.heap.size W w' ∧ ∃ xb X, e = .returned (.tuple #[ptr xb, .int .i64 0]) ∧ RefAt w' xb l [] [] X ∧ ∀ k, X k → W.heap.size ≤ k) (fun e w' ⟨hb, h⟩ => ⟨hb, by
   rcases h with ⟨q, -⟩ | ⟨-, h⟩
   ·exact absurd h0 q
   ·exact h⟩)
  have HE := Aside0.mk h0
  clear hnm hnx h0
  rw [hW1] at hnm2
  go_enter Tryz.func9, Tryz.ntmps9
  go_upto_region 5 with (first
   | (go_at_call 32; (with_reducible refine hnm2.mono ?_); rintro u_ w2 ⟨hb2, mb, M, rfl, hA2, hM2⟩; rw [← hW1] at hb2 hM2; have e0 := bcell hb2 c0)
   | (go_at_call 33; (with_reducible refine (hnx2 _ hb2).mono ?_); rintro u_ w3 ⟨hb3, xb, X, rfl, hX3, hM3⟩))
  have HT : Aside0 (Bt W1 w3 mb xb l [] [] [] [] M X) := ⟨⟨hA2.below hb3, hX3, fun k hk q => absurd (hA2.old k q) (Nat.not_lt.mpr (hM3 k hk)), hM2, fun k hk => Nat.le_trans hb2.size (hM3 k hk), hb2.trans (hb3.mono hb2.size)⟩⟩
  clear hnm2 hnx2 hA2 hX3 hM2 hM3 e0 hW1
  have q1 := bcell HT.out.b c1
  generalize w.heap.size = B0 at c0 c1 c2 q1 ⊢
  go_wp2
  go_loopw [8] (fun v wr => ∃ (i : Nat) (M X : Nat → Prop), i ≤ Ts.length ∧ v = .int .i64 i ∧ Aside0 (Bt W1 wr mb xb l (bothO l (Ts.take i)) [] (bothT l (Ts.take i)) [] M X)) (fun v _ => Ts.length - (intOf v).toNat)
  case atStart => exact ⟨0, M, X, Nat.zero_le _, rfl, HT⟩
  case round =>
   clear HT
   obtain ⟨i, M2, X2, hi, rfl, HR⟩ := hrel
   have hb := HR.out.b
   have k1 := bcell hb c1
   by_cases hlt : i < Ts.length
   ·obtain ⟨ad, rfl, x0, x1, x2⟩ := at_tr hT1 hlt hlt
    have d1 : decide ((i : Int) < (Ts.length : Int)) = true := by simp; omega
    have d2 : decide (i < Ts.length) = true := decide_eq_true hlt
    have i1 : IntKind.i64.wrap ((i : Int) + 1) = (i : Int) + 1 := wrapN (by omega) (by omega)
    have hwp : True := trivial
    have hlt2 := foldT_len l (Ts.take i)
    have HLT : Aside0 ((bothT l (Ts.take i)).length ≤ 1000000) := ⟨by rw [List.length_take] at hlt2; omega⟩
    clear hlt2
    have HO : Aside0 (∀ W, Below wr.heap.size wr W → Calls Tryz.prog 34 #[ptr mb, .int .i64 Ts[i].1, .int .i64 Ts[i].2.1, .int .i64 Ts[i].2.2] W fun e w' => ∃ r M', e = .returned (.int .i64 r) ∧ Bt W1 w' mb xb l (bothO l (Ts.take (i + 1))) [] (bothT l (Ts.take i)) [] M' X2) := ⟨fun W hW => (make_call (HR.out.below hW).m _ _ _).mono fun e w' h => by
     obtain ⟨he, M', hA, hf, -, hn⟩ := h
     refine ⟨_, M', he, ?_⟩
     rw [bothO_take hlt]
     exact (HR.out.below hW).on_m hA hf hn⟩
    have HX : Aside0 (∀ M5 w5, Bt W1 w5 mb xb l (bothO l (Ts.take (i + 1))) [] (bothT l (Ts.take i)) [] M5 X2 → ∀ W, Below w5.heap.size w5 W → Calls Tryz.prog 35 #[ptr xb, .int .i64 Ts[i].1, .int .i64 Ts[i].2.1, .int .i64 Ts[i].2.2] W fun e w' => ∃ r X', e = .returned (.int .i64 r) ∧ Bt W1 w' mb xb l (bothO l (Ts.take (i + 1))) [] (bothT l (Ts.take (i + 1))) [] M5 X') := ⟨fun M5 w5 H5 W hW => (rmake_call (H5.below hW).x HLT.out _ _ _).mono fun e w' h => by
     obtain ⟨he, X', hA, hf, -, hn⟩ := h
     refine ⟨_, X', he, ?_⟩
     rw [bothT_take hlt]
     exact (H5.below hW).on_x hA hf hn⟩
    generalize hp : Ts[i] = p at *
    obtain ⟨x, y, z⟩ := p
    simp only at x0 x1 x2 HO HX hwp
    clear hp
    have HC : Aside0 (∀ W, Below W1.heap.size W1 W → W.cell? ⟨B0, 1, none⟩ = some (.slice (some ad) Ts.length cT) ∧ W.cell? (ad.add (i * 3)) = some (.int .i64 x) ∧ W.cell? ⟨(ad.add (i * 3)).block, (ad.add (i * 3)).off + 1, none⟩ = some (.int .i64 y) ∧ W.cell? ⟨(ad.add (i * 3)).block, (ad.add (i * 3)).off + 2, none⟩ = some (.int .i64 z)) := ⟨fun W hW => ⟨bcell hW c1, bcell hW x0, bcell hW x1, bcell hW x2⟩⟩
    have hmk := fun W (hW : Below wr.heap.size wr W) => HO.out W hW
    go_upto_region 8 with (fail)
    go_region_held3 (fun W => W.cell? ⟨B0, 1, none⟩ = some (.slice (some ad) Ts.length cT) ∧ W.cell? (ad.add (i * 3)) = some (.int .i64 x) ∧ W.cell? ⟨(ad.add (i * 3)).block, (ad.add (i * 3)).off + 1, none⟩ = some (.int .i64 y) ∧ W.cell? ⟨(ad.add (i * 3)).block, (ad.add (i * 3)).off + 2, none⟩ = some (.int .i64 z))
     (first | exact HS7.out | (with_reducible refine HC.out _ ?_; (repeat (first | assumption | exact Below.refl _ _ | apply below_drew1 | apply below_alloc | apply pw_below_drewN))))
     ((go_at_call 34; (with_reducible refine (hmk _ (by (with_reducible (repeat (first | assumption | exact Below.refl _ _ | apply below_drew1 | apply below_alloc | apply pw_below_drewN))))).mono ?_); rintro u_ w5 ⟨r5, M5, rfl, HB5⟩; have hb5 := HB5.b; have HS7 := Aside0.mk (HC.out _ hb5)))
    all_goals
     have hrm := HX.out M5 w5 HB5
     clear HS7 hb
     go_upto_region 9 with (fail)
     go_region_held3 (fun W => W.cell? ⟨B0, 1, none⟩ = some (.slice (some ad) Ts.length cT) ∧ W.cell? (ad.add (i * 3)) = some (.int .i64 x) ∧ W.cell? ⟨(ad.add (i * 3)).block, (ad.add (i * 3)).off + 1, none⟩ = some (.int .i64 y) ∧ W.cell? ⟨(ad.add (i * 3)).block, (ad.add (i * 3)).off + 2, none⟩ = some (.int .i64 z))
      (first | exact HS8.out | (with_reducible refine HC.out _ ?_; (repeat (first | assumption | exact Below.refl _ _ | apply below_drew1 | apply below_alloc | apply pw_below_drewN))))
      ((go_at_call 35; (with_reducible refine (hrm _ (by (with_reducible (repeat (first | assumption | exact Below.refl _ _ | apply below_drew1 | apply below_alloc | apply pw_below_drewN))))).mono ?_); rintro u_ w6 ⟨r6, X6, rfl, HB6⟩; have hb6 := HB6.b; have HS8 := Aside0.mk (HC.out _ hb6)))
     all_goals
      go_wp2
      go_roundw
      case rel => exact ⟨i + 1, M5, X6, by omega, by go_num, ⟨HB6⟩⟩
      case measure => simp [intOf]; omega
   ·have d1 : decide ((i : Int) < (Ts.length : Int)) = false := by simp; omega
    have d2 : decide (i < Ts.length) = false := decide_eq_false hlt
    have HT : Aside0 (Bt W1 wr mb xb l (bothO l Ts) (bothF l []) (bothT l Ts) (bothF l []) M2 X2) := ⟨by have := HR.out; rw [List.take_of_length_le (by omega)] at this; exact this⟩
    clear HR hb
    have q2 := bcell HT.out.b c2
    go_wp2
    go_loopw [9] (fun v wr => ∃ (i : Nat) (M X : Nat → Prop), i ≤ Fs.length ∧ v = .int .i64 i ∧ Aside0 (Bt W1 wr mb xb l (bothO l Ts) (bothF l (Fs.take i)) (bothT l Ts) (bothF l (Fs.take i)) M X)) (fun v _ => Fs.length - (intOf v).toNat)
    case atStart => exact ⟨0, M2, X2, Nat.zero_le _, rfl, HT⟩
    case round =>
     clear HT
     obtain ⟨i, M2, X2, hi, rfl, HR⟩ := hrel
     have hb := HR.out.b
     have k1 := bcell hb c2
     by_cases hlt : i < Fs.length
     ·obtain ⟨ad, rfl, x0, x1, x2⟩ := at_tr hF1 hlt hlt
      have d1 : decide ((i : Int) < (Fs.length : Int)) = true := by simp; omega
      have d2 : decide (i < Fs.length) = true := decide_eq_true hlt
      have i1 : IntKind.i64.wrap ((i : Int) + 1) = (i : Int) + 1 := wrapN (by omega) (by omega)
      have hwp := HZ.out.2.2 Fs[i] (List.getElem_mem _)
      have hlt2 := foldF_len l (Fs.take i)
      have HLT : Aside0 ((bothF l (Fs.take i)).length ≤ 1000000) := ⟨by rw [List.length_take] at hlt2; omega⟩
      clear hlt2
      have HO : Aside0 (∀ W, Below wr.heap.size wr W → Calls Tryz.prog 36 #[ptr mb, .int .i64 Fs[i].1, .int .i64 Fs[i].2.1, .int .i64 Fs[i].2.2] W fun e w' => ∃ r M', e = .returned (.int .i64 r) ∧ Bt W1 w' mb xb l (bothO l Ts) (bothF l (Fs.take (i + 1))) (bothT l Ts) (bothF l (Fs.take i)) M' X2) := ⟨fun W hW => (fix_call (HR.out.below hW).m hwp.1 hwp.2).mono fun e w' h => by
       obtain ⟨he, hA, hf⟩ := h
       refine ⟨_, M2, he, ?_⟩
       rw [bothF_take hlt]
       exact (HR.out.below hW).on_m hA hf (fun k hk => .inl hk)⟩
      have HX : Aside0 (∀ M5 w5, Bt W1 w5 mb xb l (bothO l Ts) (bothF l (Fs.take (i + 1))) (bothT l Ts) (bothF l (Fs.take i)) M5 X2 → ∀ W, Below w5.heap.size w5 W → Calls Tryz.prog 37 #[ptr xb, .int .i64 Fs[i].1, .int .i64 Fs[i].2.1, .int .i64 Fs[i].2.2] W fun e w' => ∃ r X', e = .returned (.int .i64 r) ∧ Bt W1 w' mb xb l (bothO l Ts) (bothF l (Fs.take (i + 1))) (bothT l Ts) (bothF l (Fs.take (i + 1))) M5 X') := ⟨fun M5 w5 H5 W hW => (rfix_call (H5.below hW).x HLT.out _ _ _).mono fun e w' h => by
       obtain ⟨he, X', hA, hf, -, hn⟩ := h
       refine ⟨_, X', he, ?_⟩
       rw [show bothF l (Fs.take (i + 1)) = fixF l (bothF l (Fs.take i)) Fs[i].1 Fs[i].2.1 Fs[i].2.2 from bothF_take hlt] at H5 ⊢
       exact (H5.below hW).on_x hA hf hn⟩
      generalize hp : Fs[i] = p at *
      obtain ⟨x, y, z⟩ := p
      simp only at x0 x1 x2 HO HX hwp
      clear hp
      have HC : Aside0 (∀ W, Below W1.heap.size W1 W → W.cell? ⟨B0, 2, none⟩ = some (.slice (some ad) Fs.length cF) ∧ W.cell? (ad.add (i * 3)) = some (.int .i64 x) ∧ W.cell? ⟨(ad.add (i * 3)).block, (ad.add (i * 3)).off + 1, none⟩ = some (.int .i64 y) ∧ W.cell? ⟨(ad.add (i * 3)).block, (ad.add (i * 3)).off + 2, none⟩ = some (.int .i64 z)) := ⟨fun W hW => ⟨bcell hW c2, bcell hW x0, bcell hW x1, bcell hW x2⟩⟩
      have hmk := fun W (hW : Below wr.heap.size wr W) => HO.out W hW
      go_upto_region 13 with (fail)
      go_region_held3 (fun W => W.cell? ⟨B0, 2, none⟩ = some (.slice (some ad) Fs.length cF) ∧ W.cell? (ad.add (i * 3)) = some (.int .i64 x) ∧ W.cell? ⟨(ad.add (i * 3)).block, (ad.add (i * 3)).off + 1, none⟩ = some (.int .i64 y) ∧ W.cell? ⟨(ad.add (i * 3)).block, (ad.add (i * 3)).off + 2, none⟩ = some (.int .i64 z))
       (first | exact HS7.out | (with_reducible refine HC.out _ ?_; (repeat (first | assumption | exact Below.refl _ _ | apply below_drew1 | apply below_alloc | apply pw_below_drewN))))
       ((go_at_call 36; (with_reducible refine (hmk _ (by (with_reducible (repeat (first | assumption | exact Below.refl _ _ | apply below_drew1 | apply below_alloc | apply pw_below_drewN))))).mono ?_); rintro u_ w5 ⟨r5, M5, rfl, HB5⟩; have hb5 := HB5.b; have HS7 := Aside0.mk (HC.out _ hb5)))
      all_goals
       have hrm := HX.out M5 w5 HB5
       clear HS7 hb
       go_upto_region 14 with (fail)
       go_region_held3 (fun W => W.cell? ⟨B0, 2, none⟩ = some (.slice (some ad) Fs.length cF) ∧ W.cell? (ad.add (i * 3)) = some (.int .i64 x) ∧ W.cell? ⟨(ad.add (i * 3)).block, (ad.add (i * 3)).off + 1, none⟩ = some (.int .i64 y) ∧ W.cell? ⟨(ad.add (i * 3)).block, (ad.add (i * 3)).off + 2, none⟩ = some (.int .i64 z))
        (first | exact HS8.out | (with_reducible refine HC.out _ ?_; (repeat (first | assumption | exact Below.refl _ _ | apply below_drew1 | apply below_alloc | apply pw_below_drewN))))
        ((go_at_call 37; (with_reducible refine (hrm _ (by (with_reducible (repeat (first | assumption | exact Below.refl _ _ | apply below_drew1 | apply below_alloc | apply pw_below_drewN))))).mono ?_); rintro u_ w6 ⟨r6, X6, rfl, HB6⟩; have hb6 := HB6.b; have HS8 := Aside0.mk (HC.out _ hb6)))
       all_goals
        go_wp2
        go_roundw
        case rel => exact ⟨i + 1, M5, X6, by omega, by go_num, ⟨HB6⟩⟩
        case measure => simp [intOf]; omega
     ·have d1 : decide ((i : Int) < (Fs.length : Int)) = false := by simp; omega
      have d2 : decide (i < Fs.length) = false := decide_eq_false hlt
      have HT : Aside0 (Bt W1 wr mb xb l (bothO l Ts) (bothF l Fs) (bothT l Ts) (bothF l Fs) M2 X2) := ⟨by have := HR.out; rw [List.take_of_length_le (by omega)] at this; exact this⟩
      clear HR
      go_wp2
      go_ret2
      exact .inr ⟨HE.out, mb, xb, M2, X2, rfl, HT.out.base HB1.out⟩
 ·have d0 : ((allF l).2 != 0) = true := bne_iff_ne.mpr h0
  have hnm2 := hnm.mono (R' := fun e w' => Below W1.heap.size W1 w' ∧ e = .returned (.tuple #[.pointer none, .int .i64 (allF l).2])) (fun e w' ⟨hb, h⟩ => ⟨hb, by
   rcases h with ⟨-, h⟩ | ⟨h, -⟩
   ·exact h
   ·exact absurd h h0⟩)
  have hnx2 := fun W hW => (hnx W hW).mono (R' := fun e w' => Below W.heap.size W w' ∧ e = .returned (.tuple #[.pointer none, .int .i64 (allF l).2])) (fun e w' ⟨hb, h⟩ => ⟨hb, by
   rcases h with ⟨-, h⟩ | ⟨h, -⟩
   ·exact h
   ·exact absurd h h0⟩)
  have HE := Aside0.mk h0
  clear hnm hnx h0
  generalize hE : (allF l).2 = e0 at *
  have HG := Aside0.mk hE
  clear hE
  rw [hW1] at hnm2
  go_enter Tryz.func9, Tryz.ntmps9
  go_wp2_with (first
   | (go_at_call 32; (with_reducible refine hnm2.mono ?_); rintro u_ w2 ⟨hb2, rfl⟩; rw [← hW1] at hb2; have k0 := bcell hb2 c0)
   | (go_at_call 33; (with_reducible refine (hnx2 _ hb2).mono ?_); rintro u_ w3 ⟨hb3, rfl⟩))
  go_ret2
  exact .inl ⟨by rw [HG.out]; exact HE.out, rfl, HB1.out.trans ((hb2.trans (hb3.mono hb2.size)).mono HB1.out.size)⟩
end Go.Proofs.YtaoichlepfiliaaGreatDoor.Msh
end
section
namespace Go.Proofs.YtaoichlepfiliaaGreatDoor.Msh
open Go.RowKit Go.Proofs.YtaoichlepfiliaaGreatDoor.Mp Go.Proofs.YtaoichlepfiliaaGreatDoor.Adm Go.Proofs.YtaoichlepfiliaaGreatDoor.E Go.Proofs.YtaoichlepfiliaaGreatDoor.R Go.Proofs.YtaoichlepfiliaaGreatDoorW.PrintWords Go.Proofs.YtaoichlepfiliaaGreatDoorW.PrintLast
theorem eq_tri (W : World) (a b c x y z : Int) : (Op.equalIn 10000 53 (.agg #[.int .i64 a, .int .i64 b, .int .i64 c]) (.agg #[.int .i64 x, .int .i64 y, .int .i64 z])).run Tryz.prog W = .ok (decide (a = x ∧ b = y ∧ c = z)) W := by
 obtain ⟨i, hi, -, -, -⟩ := info_parts infoN
 have hc : Tryz.prog.cellsOf 3 = 1 := by kernel_rfl
 have hu := Tryz.underlying3
 have h := run_equalIn_array (P := Tryz.prog) W 9999 #[.int .i64 a, .int .i64 b, .int .i64 c] #[.int .i64 x, .int .i64 y, .int .i64 z] Tryz.underlying53 hi
 rw [h, hc]
 by_cases h0 : a = x
 ·by_cases h1 : b = y
  ·by_cases h2 : c = z
   ·subst h0 h1 h2
    simp [Op.eqItems, List.range_succ, go_sem, hu]
   ·subst h0 h1
    simp [Op.eqItems, List.range_succ, go_sem, hu, h2]
  ·subst h0
   simp [Op.eqItems, List.range_succ, go_sem, hu, h1]
 ·simp [Op.eqItems, List.range_succ, go_sem, hu, h0]
theorem neq_tri (W : World) (a b c x y z : Int) : (Go.binOp .neq 53 (.agg #[.int .i64 a, .int .i64 b, .int .i64 c]) (.agg #[.int .i64 x, .int .i64 y, .int .i64 z])).run Tryz.prog W = .ok (.bool (!(decide (a = x ∧ b = y ∧ c = z)))) W := by
 rw [run_neq_struct, eq_tri]
 rfl
theorem guard_tri (W : World) (op : BinOp) (x y : Operand) (xs ys : Array Value) : (eqGuard op 53 x y (.agg xs) (.agg ys)).run Tryz.prog W = .ok () W := run_eqGuard_agg W op 53 x y xs ys (by kernel_rfl)
end Go.Proofs.YtaoichlepfiliaaGreatDoor.Msh
end
section
namespace Go.Proofs.YtaoichlepfiliaaGreatDoor.Msh
open Go.RowKit Go.Sort Go.ChangeMaps Go.MapKept Go.Proofs.YtaoichlepfiliaaGreatDoor.Mp Go.Proofs.YtaoichlepfiliaaGreatDoor.Adm Go.Proofs.YtaoichlepfiliaaGreatDoor.Kfl Go.Proofs.YtaoichlepfiliaaGreatDoor.R Go.Proofs.YtaoichlepfiliaaGreatDoor.E Go.Proofs.YtaoichlepfiliaaGreatDoorW.PrintWords Go.Proofs.YtaoichlepfiliaaGreatDoorW.PrintLast
set_option maxRecDepth 100000 in
set_option maxHeartbeats 8000000 in
set_option maxHeartbeats 4000000 in
theorem large_call (AP : Option Addr) (nP cP : Nat) (AT : Option Addr) (nT cT : Nat) (AF : Option Addr) (nF cF : Nat) (w : World) :
 Calls Tryz.prog 8 #[.agg #[.slice AP nP cP, .slice AT nT cT, .slice AF nF cF]] w fun e w' => e = .returned (.bool (decide (40 < nP) || (decide (60 < nT) || decide (60 < nF)))) ∧ Below w.heap.size w w' := by
 have hB : Below w.heap.size w (w.alloc (.cells #[.slice AP nP cP, .slice AT nT cT, .slice AF nF cF] 26)) := below_alloc (Below.refl _ _) _
 have e1 : decide ((40 : Int) < (nP : Int)) = decide (40 < nP) := decide_eq_decide.mpr (by omega)
 have e2 : decide ((60 : Int) < (nT : Int)) = decide (60 < nT) := decide_eq_decide.mpr (by omega)
 have e3 : decide ((60 : Int) < (nF : Int)) = decide (60 < nF) := decide_eq_decide.mpr (by omega)
 generalize decide (40 < nP) = b1 at *
 generalize decide (60 < nT) = b2 at *
 generalize decide (60 < nF) = b3 at *
 cases b1 <;> cases b2 <;> cases b3
 all_goals
  go_enter Tryz.func8, Tryz.ntmps8
  go_wp2
  go_ret
  exact ⟨rfl, hB⟩
end Go.Proofs.YtaoichlepfiliaaGreatDoor.Msh
end
