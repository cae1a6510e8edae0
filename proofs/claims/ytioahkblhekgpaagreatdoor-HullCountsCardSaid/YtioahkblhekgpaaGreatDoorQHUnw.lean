/- What the proof needs of Unw: only what is used is left (wip/tools/prune.py). Conditions stand in each sentence. -/
import Derived.Test.YtioahkblhekgpaaGreatDoorQHUnl
set_option linter.unusedVariables false
set_option linter.unusedSimpArgs false
namespace Go.Proofs.YtioahkblhekgpaaGreatDoor.E
end Go.Proofs.YtioahkblhekgpaaGreatDoor.E
namespace Go.Proofs.YtioahkblhekgpaaGreatDoor.FltP
end Go.Proofs.YtioahkblhekgpaaGreatDoor.FltP
namespace Go.Proofs.YtioahkblhekgpaaGreatDoor.O
end Go.Proofs.YtioahkblhekgpaaGreatDoor.O
namespace Go.Proofs.YtioahkblhekgpaaGreatDoor.R
end Go.Proofs.YtioahkblhekgpaaGreatDoor.R
namespace Go.Proofs.YtioahkblhekgpaaGreatDoorW.PrintLast
end Go.Proofs.YtioahkblhekgpaaGreatDoorW.PrintLast
namespace Go.Proofs.YtioahkblhekgpaaGreatDoorW.PrintMore
end Go.Proofs.YtioahkblhekgpaaGreatDoorW.PrintMore
namespace Go.Proofs.YtioahkblhekgpaaGreatDoorW.PrintWords
end Go.Proofs.YtioahkblhekgpaaGreatDoorW.PrintWords
namespace Go.Proofs.YtioahkblhekgpaaGreatDoor.Adm
open Go.RowKit Go.Proofs.YtioahkblhekgpaaGreatDoor.FltP Go.Proofs.YtioahkblhekgpaaGreatDoor.R Go.Proofs.YtioahkblhekgpaaGreatDoor.E Go.Proofs.YtioahkblhekgpaaGreatDoor.O Go.Proofs.YtioahkblhekgpaaGreatDoorW.PrintWords Go.Proofs.YtioahkblhekgpaaGreatDoorW.PrintLast Go.Proofs.YtioahkblhekgpaaGreatDoorW.PrintMore
theorem idxF_nn {α : Type} (p : α → Bool) : ∀ (l : List α) (n : Nat), (0 ≤ idxF p n l ↔ ∃ x ∈ l, p x = true)
  | [], n => by simp [idxF]
  | x :: l, n => by
    unfold idxF
    by_cases h : p x = true
    · rw [if_pos h]; exact ⟨fun _ => ⟨x, by simp, h⟩, fun _ => by omega⟩
    · rw [if_neg h, idxF_nn p l (n + 1)]
      constructor
      · rintro ⟨y, hy, hp⟩; exact ⟨y, by simp [hy], hp⟩
      · rintro ⟨y, hy, hp⟩
        rcases List.mem_cons.mp hy with rfl | hy
        · exact absurd hp h
        · exact ⟨y, hy, hp⟩
theorem allF_ok (l : List S) : (allF l).2 = 0 ↔ l.length ≤ 1048576 ∧ ∀ x ∈ l, gp x = true := by
  unfold allF
  by_cases h : l.length > 1048576
  · rw [if_pos h]; constructor
    · intro h0; exact absurd h0 (by decide)
    · intro h0; omega
  · rw [if_neg h]
    by_cases h2 : idxF (fun x => !gp x) 0 l ≥ 0
    · rw [if_pos h2]
      obtain ⟨x, hx, hp⟩ := (idxF_nn _ _ _).mp h2
      constructor
      · intro h0; exact absurd h0 (by show (10 : Int) ≠ 0; decide)
      · intro h0; have := h0.2 x hx; rw [this] at hp; exact absurd hp (by decide)
    · rw [if_neg h2]
      refine ⟨fun _ => ⟨by omega, fun x hx => ?_⟩, fun _ => rfl⟩
      cases hg : gp x
      · exact absurd ((idxF_nn (fun x => !gp x) l 0).mpr ⟨x, hx, by simp [hg]⟩) h2
      · rfl
theorem gp_good {x : S} (h : gp x = true) : GoodF x.f0 ∧ GoodF x.f1 := by
  unfold gp at h
  rw [Bool.and_eq_true] at h
  exact ⟨of_decide_eq_true h.1, of_decide_eq_true h.2⟩
theorem good_fin {l : List S} (h : ∀ x ∈ l, gp x = true) : Fin2 l := fun x hx => ⟨(gp_good (h x hx)).1.1, (gp_good (h x hx)).2.1⟩
set_option maxRecDepth 100000 in
theorem order_bad (A : Option Addr) (c : Nat) (l : List S) (w : World) (hl : Kd.C k32 w A l.length l) (hc : l.length ≤ c) (hw : Wd l) (hg : (allF l).2 ≠ 0) :
    Calls Tryz.prog 14 #[.slice A l.length c] w fun e w' => e = .returned (.slice none 0 0) ∧ Below w.heap.size w w' := by
  have hgood := good_calls A c l (w.alloc (.cells #[.slice A l.length c] 22)) (Kd.C_below hl ((Below.refl _ _).alloc (Nat.le_refl _) _)) hc hw
  rw [show ((allF l).2 == 0) = false from beq_eq_false_iff_ne.mpr hg] at hgood
  go_enter Tryz.func14, Tryz.ntmps14
  go_wp2_with (go_at_call 45; (with_reducible refine hgood.mono ?_); rintro u w1 ⟨rfl, hb1⟩)
  go_ret
  exact ⟨rfl, ((Below.refl w.heap.size w).alloc (Nat.le_refl _) _).trans (hb1.mono (by simp))⟩
set_option maxRecDepth 100000 in
set_option maxHeartbeats 1000000 in
theorem order_zero (A : Option Addr) (c : Nat) (w : World) (hl : Kd.C k32 w A 0 []) :
    Calls Tryz.prog 14 #[.slice A 0 c] w fun e w' => ∃ v : Value, e = .returned v ∧ Kd.R (Kd.int .i64) 3 w' w.heap.size (fun _ => True) v [] ∧ Below w.heap.size w w' := by
  have hmf : ∀ (fn : Fn) (first cap : Array Value) (w : World), (Instr.makeFunc fn first cap).run Tryz.prog w = .ok (.func fn first cap) w := fun _ _ _ _ => rfl
  have hgood : ∀ w, Kd.C k32 w A 0 [] → Calls Tryz.prog 45 #[.slice A 0 c] w fun e w' => e = .returned (.bool true) ∧ Below w.heap.size w w' := fun w h => good_calls A c [] w h (Nat.zero_le _) (fun x hx => by simp at hx)
  have hS := fun W p cap => AnyF.slices_SortFunc_none (P := Tryz.prog) (ρ := Srt.sortRen) { Srt.sortL with } p cap (.func (.func 47) #[] #[.pointer (some ⟨w.heap.size, 0, none⟩)]) W
  change ∀ W p cap, Calls Tryz.prog 46 _ _ _ at hS
  go_enter Tryz.func14, Tryz.ntmps14
  go_wp2_with (first | (go_at_call 45; (with_reducible refine (hgood _ (Kd.C_below hl ((Below.refl _ _).alloc (Nat.le_refl _) _))).mono ?_); rintro u w1 ⟨rfl, hb1⟩; have hbx1 := (blk_cell (box_after hb1) 0).trans (show _ = some (Value.slice A 0 c) from rfl)) | ((with_reducible refine gate_dst (N := 10) rfl ?_); refine Kd.R_make (Kd.int .i64) _ 3 rfl (N := 10) rfl 26 _ _ rfl (0 : Int) rfl rfl Tryz.underlying26 (.int .i64 0) 8 infoI rfl (by decide) (by omega) (0 : Int) (ok := fun _ => True) (okp := fun _ => True) rfl (fun _ hk => hk) trivial (by omega) (by decide) (Below.refl _ _) (Nat.le_refl _) ?_; intro v1 w2 ho1 hb2 hg1 hnew1; clear hg1 hnew1; obtain ⟨A2, c2, rfl⟩ := Kd.R_slice ho1; have HO := Lib.hid ho1; have HB := Lib.hid hb2; clear ho1 hb2))
  refine wp_loop_rounds 1 ?_
  rw [rounds_succ]
  go_wp2_with (go_at_call 46; (with_reducible refine (hS _ _ _).mono ?_); rintro u w3 ⟨rfl, rfl⟩)
  go_ret
  have h1 : w.heap.size + 1 ≤ w1.heap.size := by simpa using hb1.size
  exact ⟨_, rfl, Kd.R_lower HO.out (by omega), (((Below.refl w.heap.size w).alloc (Nat.le_refl _) _).trans (hb1.mono (by simp))).trans (HB.out.mono (by omega))⟩
def ordAll (l : List S) : List Nat := if (allF l).2 = 0 then orderN l else []
theorem order_calls (A : Option Addr) (c : Nat) (l : List S) (w : World) (hl : Kd.C k32 w A l.length l) (hc : l.length ≤ c) (hw : Wd l) :
    Calls Tryz.prog 14 #[.slice A l.length c] w fun e w' => ∃ v : Value, e = .returned v ∧ Kd.R (Kd.int .i64) 3 w' w.heap.size (fun _ => True) v (zi (ordAll l)) ∧ Below w.heap.size w w' := by
  unfold ordAll
  by_cases hg : (allF l).2 = 0
  · rw [if_pos hg]
    obtain ⟨h1, h2⟩ := (allF_ok l).mp hg
    by_cases h0 : l.length = 0
    · obtain rfl : l = [] := List.length_eq_zero_iff.mp h0
      rw [show orderN ([] : List S) = [] from List.length_eq_zero_iff.mp (orderN_sorted []).length]
      exact order_zero A c w hl
    · have := order_any A c l w hl hc hw (good_fin h2) hg (by omega) h1
      rw [orderL_N] at this
      exact this
  · rw [if_neg hg]
    exact (order_bad A c l w hl hc hw hg).mono fun e w' ⟨he, hb⟩ => ⟨_, he, Kd.R_nil _ _ _ _ _, hb⟩
def unlAll (l : List S) : List Nat := Geo.compact (PT l) (ordAll l)
set_option maxRecDepth 100000 in
set_option maxHeartbeats 1000000 in
theorem compact_none (A : Option Addr) (c : Nat) (fv : Value) (w : World) : Calls Tryz.prog 50 #[.slice A 0 c, fv] w fun e w' => e = .returned (.slice A 0 c) ∧ w' = w := by
  go_enter Tryz.func50, Tryz.ntmps50
  go_wp2
  go_ret
  exact ⟨rfl, rfl⟩
theorem ordAll_lt (l : List S) : ∀ y ∈ ordAll l, y < l.length := fun y hy => by
  unfold ordAll at hy
  split at hy
  · exact ((orderN_sorted l).2 y).mp hy
  · simp at hy
theorem ordAll_len (l : List S) : (ordAll l).length = l.length ∧ l.length ≤ 1048576 ∧ (∀ x ∈ l, gp x = true) ∨ ordAll l = [] := by
  unfold ordAll
  by_cases hg : (allF l).2 = 0
  · rw [if_pos hg]; obtain ⟨h1, h2⟩ := (allF_ok l).mp hg; exact .inl ⟨(orderN_sorted l).length, h1, h2⟩
  · rw [if_neg hg]; exact .inr rfl
set_option maxRecDepth 100000 in
set_option maxHeartbeats 1000000 in
theorem unlike_calls (A : Option Addr) (c : Nat) (l : List S) (w : World) (hl : Kd.C k32 w A l.length l) (hc : l.length ≤ c) (hw : Wd l) :
    Calls Tryz.prog 16 #[.slice A l.length c] w fun e w' => ∃ v : Value, e = .returned v ∧ Kd.R (Kd.int .i64) 3 w' w.heap.size (fun _ => True) v (zi (unlAll l)) ∧ Below w.heap.size w w' := by
  have hmf : ∀ (fn : Fn) (first cap : Array Value) (w : World), (Instr.makeFunc fn first cap).run Tryz.prog w = .ok (.func fn first cap) w := fun _ _ _ _ => rfl
  have hor := order_calls A c l (w.alloc (.cells #[.slice A l.length c] 22)) (Kd.C_below hl ((Below.refl _ _).alloc (Nat.le_refl _) _)) hc hw
  have key : ∀ (v : Value) (w1 : World), Kd.R (Kd.int .i64) 3 w1 (w.alloc (.cells #[.slice A l.length c] 22)).heap.size (fun _ => True) v (zi (ordAll l)) → Below (w.alloc (.cells #[.slice A l.length c] 22)).heap.size (w.alloc (.cells #[.slice A l.length c] 22)) w1 →
      Calls Tryz.prog 50 #[v, .func (.func 51) #[] #[.pointer (some ⟨w.heap.size, 0, none⟩)]] w1 fun e w' => ∃ v : Value, e = .returned v ∧ Kd.R (Kd.int .i64) 3 w' w.heap.size (fun _ => True) v (zi (unlAll l)) ∧ Below w.heap.size w w' := by
    intro v w1 hR hB
    have hbel : Below w.heap.size w w1 := ((Below.refl w.heap.size w).alloc (Nat.le_refl _) _).trans (hB.mono (by simp))
    by_cases h0 : ordAll l = []
    · obtain ⟨A1, c1, rfl, h1, h2⟩ := Kd.R_reads hR
      unfold unlAll
      rw [h0] at hR ⊢
      exact (compact_none A1 c1 _ w1).mono fun e w' ⟨he, hw⟩ => ⟨_, he, by rw [hw]; exact Kd.R_lower hR (by simp), by rw [hw]; exact hbel⟩
    · rcases ordAll_len l with ⟨h1, h2, h3⟩ | h1
      · have hn : 0 < (zi (ordAll l)).length := by rw [List.length_map]; exact List.length_pos_iff.mpr h0
        obtain ⟨g, cap, rfl, g1, g2, g3⟩ := Kd.R_form hR (by omega)
        rw [show (zi (ordAll l)).length = (ordAll l).length from List.length_map ..] at hR ⊢
        have hcap := (Kd.R_reads' hR).2.1
        refine compact_calls (w := w) ⟨Kd.R_lower hR (by simp), hbel, by simpa using g1, box_after hB⟩ hl (good_fin h3) (ordAll_lt l) (by omega) (by simpa using hcap)
      · exact absurd h1 h0
  go_enter Tryz.func16, Tryz.ntmps16
  go_wp2_with (first | (go_at_call 14; (with_reducible refine hor.mono ?_); rintro u w1 ⟨v1, rfl, hR1, hB1⟩) | (go_at_call 50; (with_reducible refine (key _ _ hR1 hB1).mono ?_); rintro u w2 ⟨v2, rfl, hR2, hB2⟩))
  go_ret
  exact ⟨_, rfl, hR2, hB2⟩
end Go.Proofs.YtioahkblhekgpaaGreatDoor.Adm
