/- What the proof needs of Row, Chn: only what is used is left (wip/tools/prune.py). Conditions stand in each sentence. -/
import Derived.Test.YtioahkblhekgpaaGreatDoorQKHld
import Derived.Test.YtioahkblhekgpaaGreatDoorQKFla
set_option linter.unusedVariables false
set_option linter.unusedSimpArgs false
namespace Go.Proofs.YtioahkblhekgpaaGreatDoor.E
end Go.Proofs.YtioahkblhekgpaaGreatDoor.E
namespace Go.Proofs.YtioahkblhekgpaaGreatDoor.FltP
end Go.Proofs.YtioahkblhekgpaaGreatDoor.FltP
namespace Go.Proofs.YtioahkblhekgpaaGreatDoor.O
end Go.Proofs.YtioahkblhekgpaaGreatDoor.O
namespace Go.Proofs.YtioahkblhekgpaaGreatDoor.R
end Go.Proofs.YtioahkblhekgpaaGreatDoor.R
namespace Go.Proofs.YtioahkblhekgpaaGreatDoorW.PrintLast
end Go.Proofs.YtioahkblhekgpaaGreatDoorW.PrintLast
namespace Go.Proofs.YtioahkblhekgpaaGreatDoorW.PrintMore
end Go.Proofs.YtioahkblhekgpaaGreatDoorW.PrintMore
namespace Go.Proofs.YtioahkblhekgpaaGreatDoorW.PrintWords
end Go.Proofs.YtioahkblhekgpaaGreatDoorW.PrintWords
namespace Go.Proofs.YtioahkblhekgpaaGreatDoor.Adm
open Go.RowKit Go.Proofs.YtioahkblhekgpaaGreatDoor.FltP Go.Proofs.YtioahkblhekgpaaGreatDoor.R Go.Proofs.YtioahkblhekgpaaGreatDoor.E Go.Proofs.YtioahkblhekgpaaGreatDoor.O Go.Proofs.YtioahkblhekgpaaGreatDoorW.PrintWords Go.Proofs.YtioahkblhekgpaaGreatDoorW.PrintLast Go.Proofs.YtioahkblhekgpaaGreatDoorW.PrintMore
theorem row_at {w : World} {A : Option Addr} {n : Nat} {xs : List Int} (h : Kd.C (Kd.int .i64) w A n xs) (hn : 0 < n) : ∃ b o, A = some ⟨b, o, none⟩ ∧ ∀ i : Nat, i < n → w.cell? ⟨b, o + i, none⟩ = some (.int .i64 (rd xs (i : Int))) := by
 obtain ⟨ad, rfl, h0⟩ := Kd.at_int h ((0 : Nat) : Int) (by omega) (by omega)
 obtain ⟨b, o, sp⟩ := ad
 have hsp : sp = none := by simpa [Addr.add] using World.cell?_spot h0
 subst hsp
 refine ⟨b, o, rfl, fun i hi => ?_⟩
 obtain ⟨ad', e, h1⟩ := Kd.at_int h (i : Int) (by omega) (by omega)
 injection e with e
 subst e
 rw [Int.toNat_natCast, Addr.add_lit] at h1
 exact h1
theorem row_cells {w : World} {b o n : Nat} {xs : List Int} (h : Kd.C (Kd.int .i64) w (some ⟨b, o, none⟩) n xs) (i : Nat) (hi : i < n) : w.cell? ⟨b, o + i, none⟩ = some (.int .i64 (rd xs (i : Int))) := by
 obtain ⟨ad', e, h1⟩ := Kd.at_int h (i : Int) (by omega) (by omega)
 injection e with e
 subst e
 rw [Int.toNat_natCast, Addr.add_lit] at h1
 exact h1
theorem pts_at {w : World} {A : Option Addr} {n : Nat} {l : List S} (h : Kd.C k32 w A n l) (hn : 0 < n) : ∃ b o, A = some ⟨b, o, none⟩ ∧ ∀ i : Nat, i < n → w.cell? ⟨b, o + i * 2, none⟩ = some (.float .f64 (rd_T32 l (i : Int)).f0) ∧ w.cell? ⟨b, o + i * 2 + 1, none⟩ = some (.float .f64 (rd_T32 l (i : Int)).f1) := by
 obtain ⟨ad, rfl, h0, -⟩ := at_T32 h ((0 : Nat) : Int) (by omega) (by omega)
 obtain ⟨b, o, sp⟩ := ad
 have hsp : sp = none := by simpa [Addr.add] using World.cell?_spot h0
 subst hsp
 refine ⟨b, o, rfl, fun i hi => ?_⟩
 obtain ⟨ad', e, h1, h2⟩ := at_T32 h (i : Int) (by omega) (by omega)
 injection e with e
 subst e
 rw [Int.toNat_natCast, Addr.add_lit] at h1 h2
 exact ⟨h1, h2⟩
end Go.Proofs.YtioahkblhekgpaaGreatDoor.Adm
namespace Go.Proofs.YtioahkblhekgpaaGreatDoor.Adm
open Go.RowKit Go.Proofs.YtioahkblhekgpaaGreatDoor.FltP Go.Proofs.YtioahkblhekgpaaGreatDoor.R Go.Proofs.YtioahkblhekgpaaGreatDoor.E Go.Proofs.YtioahkblhekgpaaGreatDoor.O Go.Proofs.YtioahkblhekgpaaGreatDoorW.PrintWords Go.Proofs.YtioahkblhekgpaaGreatDoorW.PrintLast Go.Proofs.YtioahkblhekgpaaGreatDoorW.PrintMore
theorem sgn_three (l : List S) (a b c : Nat) : sgnAt l a b c = 1 ∨ sgnAt l a b c = 0 ∨ sgnAt l a b c = -1 := by
 unfold sgnAt
 rcases Int.lt_trichotomy (Geo.det (PT l a) (PT l b) (PT l c)) 0 with h | h | h
 ·exact .inr (.inr (Int.sign_eq_neg_one_of_neg h))
 ·rw [h]; exact .inr (.inl rfl)
 ·exact .inl (Int.sign_eq_one_of_pos h)
theorem sgn_pos {l : List S} {a b c : Nat} : sgnAt l a b c = 1 ↔ 0 < Geo.det (PT l a) (PT l b) (PT l c) := Int.sign_eq_one_iff_pos
theorem sgn_nil {l : List S} {a b c : Nat} : sgnAt l a b c = 0 ↔ Geo.det (PT l a) (PT l b) (PT l c) = 0 := Int.sign_eq_zero_iff_zero
theorem keep_sgn (l : List S) (e : Bool) (a b c : Nat) : Geo.keep (PT l) e a b c = (decide (sgnAt l a b c = 1) || (e && decide (sgnAt l a b c = 0))) := by
 unfold Geo.keep
 simp only [sgn_pos, sgn_nil]
theorem eight_below {w w1 : World} {p1 p2 p3 p4 p5 p6 p7 p8 : Addr} {v1 v2 v3 v4 v5 v6 v7 v8 : Value} (hb : Below w.heap.size w w1) (h : w.cell? p1 = some v1 ∧ w.cell? p2 = some v2 ∧ w.cell? p3 = some v3 ∧ w.cell? p4 = some v4 ∧ w.cell? p5 = some v5 ∧ w.cell? p6 = some v6 ∧ w.cell? p7 = some v7 ∧ w.cell? p8 = some v8) :
 w1.cell? p1 = some v1 ∧ w1.cell? p2 = some v2 ∧ w1.cell? p3 = some v3 ∧ w1.cell? p4 = some v4 ∧ w1.cell? p5 = some v5 ∧ w1.cell? p6 = some v6 ∧ w1.cell? p7 = some v7 ∧ w1.cell? p8 = some v8 :=
 ⟨bcell hb h.1, bcell hb h.2.1, bcell hb h.2.2.1, bcell hb h.2.2.2.1, bcell hb h.2.2.2.2.1, bcell hb h.2.2.2.2.2.1, bcell hb h.2.2.2.2.2.2.1, bcell hb h.2.2.2.2.2.2.2⟩
set_option maxRecDepth 100000 in
set_option maxHeartbeats 2000000 in
theorem keep_closure (A : Option Addr) (c : Nat) (l : List S) (BL BE : Nat) (ed : Bool) {i j k : Nat} (hg : ∀ x ∈ l, gp x = true) (hi : i < l.length) (hj : j < l.length) (hk : k < l.length) (W : World) (hBL : W.cell? ⟨BL, 0, none⟩ = some (.slice A l.length c)) (hBE : W.cell? ⟨BE, 0, none⟩ = some (.bool ed)) (hl : Kd.C k32 W A l.length l) :
 Calls Tryz.prog 84 #[.int .i64 i, .int .i64 j, .int .i64 k, .pointer (some ⟨BL, 0, none⟩), .pointer (some ⟨BE, 0, none⟩)] W fun e w' => e = .returned (.bool (Geo.keep (PT l) ed i j k)) ∧ Below W.heap.size W w' := by
 have hu32 := Tryz.underlying32
 have hm := hl.2.1
 have hsc := fun w => sign_call hg hi hj hk w
 rw [keep_sgn]
 have h3 := sgn_three l i j k
 generalize sgnAt l i j k = r at hsc h3 ⊢
 obtain ⟨ab, ao, rfl, hz⟩ := pts_at hl (by omega)
 obtain ⟨x0, x1⟩ := hz i hi
 obtain ⟨y0, y1⟩ := hz j hj
 obtain ⟨z0, z1⟩ := hz k hk
 clear hz
 generalize rd_T32 l (i : Int) = x at *
 generalize rd_T32 l (j : Int) = y at *
 generalize rd_T32 l (k : Int) = z at *
 have hS : W.cell? ⟨BL, 0, none⟩ = some (.slice (some ⟨ab, ao, none⟩) l.length c) ∧ W.cell? ⟨BE, 0, none⟩ = some (.bool ed) ∧ W.cell? ⟨ab, ao + i * 2, none⟩ = some (.float .f64 x.f0) ∧ W.cell? ⟨ab, ao + i * 2 + 1, none⟩ = some (.float .f64 x.f1) ∧ W.cell? ⟨ab, ao + j * 2, none⟩ = some (.float .f64 y.f0) ∧ W.cell? ⟨ab, ao + j * 2 + 1, none⟩ = some (.float .f64 y.f1) ∧ W.cell? ⟨ab, ao + k * 2, none⟩ = some (.float .f64 z.f0) ∧ W.cell? ⟨ab, ao + k * 2 + 1, none⟩ = some (.float .f64 z.f1) := ⟨hBL, hBE, x0, x1, y0, y1, z0, z1⟩
 clear hBL hBE x0 x1 y0 y1 z0 z1
 rcases h3 with rfl | rfl | rfl
 all_goals
  go_enter Tryz.func84, Tryz.ntmps84
  go_wp2
  go_region_held (fun w' => w'.cell? ⟨BL, 0, none⟩ = some (.slice (some ⟨ab, ao, none⟩) l.length c) ∧ w'.cell? ⟨BE, 0, none⟩ = some (.bool ed) ∧ w'.cell? ⟨ab, ao + i * 2, none⟩ = some (.float .f64 x.f0) ∧ w'.cell? ⟨ab, ao + i * 2 + 1, none⟩ = some (.float .f64 x.f1) ∧ w'.cell? ⟨ab, ao + j * 2, none⟩ = some (.float .f64 y.f0) ∧ w'.cell? ⟨ab, ao + j * 2 + 1, none⟩ = some (.float .f64 y.f1) ∧ w'.cell? ⟨ab, ao + k * 2, none⟩ = some (.float .f64 z.f0) ∧ w'.cell? ⟨ab, ao + k * 2 + 1, none⟩ = some (.float .f64 z.f1))
   (first | exact hS | (exact eight_below (by assumption) (by assumption)))
   (first | (go_at_call 24; (with_reducible refine (hsc _).mono ?_); rintro o w2 ⟨rfl, hb2⟩))
  rename_i hH
  obtain ⟨-, hE, -⟩ := hH
  clear hS
  go_wp2
  go_ret
  exact ⟨by cases ed <;> rfl, (Below.refl W.heap.size W).drew.trans (by assumption)⟩
theorem wrapI (n : Int) (h0 : -9223372036854775808 ≤ n) (h1 : n ≤ 9223372036854775807) : IntKind.i64.wrap n = n := by
 simp only [IntKind.wrap]; simp [IntKind.signed, IntKind.bits]; omega
set_option maxRecDepth 100000 in
set_option maxHeartbeats 1000000 in
theorem low_closure (A2 : Option Addr) (c2 : Nat) (us : List Nat) (B : Nat) {i : Nat} (hi : i < us.length) (W : World) (hB : W.cell? ⟨B, 0, none⟩ = some (.slice A2 us.length c2)) (hul : Kd.C (Kd.int .i64) W A2 us.length (zi us)) :
 Calls Tryz.prog 86 #[.int .i64 i, .pointer (some ⟨B, 0, none⟩)] W fun e w' => e = .returned (.int .i64 (us.getD i 0 : Nat)) ∧ Below W.heap.size W w' := by
 have hm := hul.2.1
 obtain ⟨ub, uo, rfl, hz⟩ := row_at hul (by omega)
 have h1 := hz i hi
 rw [rd, Int.toNat_natCast, List.getD_eq_getElem?_getD, zi_get hi] at h1
 clear hz
 generalize us.getD i 0 = y at *
 have d1 : decide ((i : Int) < (us.length : Int)) = true := by simp; omega
 have d2 : decide (i < us.length) = true := by simp; omega
 go_enter Tryz.func86, Tryz.ntmps86
 go_wp2
 go_ret
 exact ⟨rfl, Below.refl _ _⟩
set_option maxRecDepth 100000 in
set_option maxHeartbeats 1000000 in
theorem high_closure (A2 : Option Addr) (c2 : Nat) (us : List Nat) (B : Nat) {i : Nat} (hi : i < us.length) (W : World) (hB : W.cell? ⟨B, 0, none⟩ = some (.slice A2 us.length c2)) (hul : Kd.C (Kd.int .i64) W A2 us.length (zi us)) :
 Calls Tryz.prog 87 #[.int .i64 i, .pointer (some ⟨B, 0, none⟩)] W fun e w' => e = .returned (.int .i64 (us.getD (us.length - 1 - i) 0 : Nat)) ∧ Below W.heap.size W w' := by
 have hm := hul.2.1
 obtain ⟨ub, uo, rfl, hz⟩ := row_at hul (by omega)
 have h1 := hz (us.length - 1 - i) (by omega)
 rw [rd, Int.toNat_natCast, List.getD_eq_getElem?_getD, zi_get (by omega)] at h1
 clear hz
 generalize us.getD (us.length - 1 - i) 0 = y at *
 obtain ⟨j, hj⟩ : ∃ j, j = us.length - 1 - i := ⟨_, rfl⟩
 rw [← hj] at h1
 have e1 : IntKind.i64.wrap ((us.length : Int) - 1) = (us.length : Int) - 1 := wrapI _ (by omega) (by omega)
 have e2 : IntKind.i64.wrap ((us.length : Int) - 1 - (i : Int)) = (j : Int) := by rw [wrapI _ (by omega) (by omega)]; omega
 have hjl : j < us.length := by omega
 have d1 : decide ((j : Int) < (us.length : Int)) = true := by simp; omega
 have d2 : decide (j < us.length) = true := by simp; omega
 clear hj hi
 go_enter Tryz.func87, Tryz.ntmps87
 go_wp2
 go_ret
 exact ⟨rfl, Below.refl _ _⟩
end Go.Proofs.YtioahkblhekgpaaGreatDoor.Adm
