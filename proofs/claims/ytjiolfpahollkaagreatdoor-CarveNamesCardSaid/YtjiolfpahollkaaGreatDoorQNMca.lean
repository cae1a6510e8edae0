/- What the proof needs of Mca: only what is used is left (wip/tools/prune.py). Conditions stand in each sentence. -/
import Derived.WalkKit
import Derived.LoopTactic
import Derived.Lib.Hide
import Derived.Test.YtjiolfpahollkaaGreatDoorQNMpc
import Derived.Test.YtjiolfpahollkaaGreatDoorProg
import Derived.Shelf.SlSortCmp.NoneTotal
section
set_option linter.unusedVariables false
set_option linter.unusedSimpArgs false
namespace Go.Proofs.YtjiolfpahollkaaGreatDoor.Msh
open Go.RowKit
def cmpI (x y : Int) : Int := if x < y then -1 else if y < x then 1 else 0
def cmp3 (x y : Tr) : Int := if cmpI x.1 y.1 ≠ 0 then cmpI x.1 y.1 else if cmpI x.2.1 y.2.1 ≠ 0 then cmpI x.2.1 y.2.1 else cmpI x.2.2 y.2.2
theorem cmpI_lt {x y : Int} (h : x < y) : cmpI x y = -1 := by unfold cmpI; rw [if_pos h]
theorem cmpI_gt {x y : Int} (h : y < x) : cmpI x y = 1 := by unfold cmpI; rw [if_neg (by omega), if_pos h]
theorem cmpI_eq (x : Int) : cmpI x x = 0 := by unfold cmpI; rw [if_neg (by omega), if_neg (by omega)]
theorem cmp3_lt {x y : Tr} : cmp3 x y < 0 ↔ lt3 x y := by
  unfold cmp3 lt3
  rcases Int.lt_trichotomy x.1 y.1 with h | h | h
  · rw [cmpI_lt h, if_pos (by decide)]; omega
  · rw [h, cmpI_eq, if_neg (by decide)]
    rcases Int.lt_trichotomy x.2.1 y.2.1 with k | k | k
    · rw [cmpI_lt k, if_pos (by decide)]; omega
    · rw [k, cmpI_eq, if_neg (by decide)]
      rcases Int.lt_trichotomy x.2.2 y.2.2 with q | q | q
      · rw [cmpI_lt q]; omega
      · rw [q, cmpI_eq]; omega
      · rw [cmpI_gt q]; omega
    · rw [cmpI_gt k, if_pos (by decide)]; omega
  · rw [cmpI_gt h, if_pos (by decide)]; omega
theorem ret_i64 {a b : Int} (h : b = a) : Ending.returned (.int .i64 a) = .returned (.int .i64 b) := by rw [h]
structure Zs (c0 c1 c2 : Int) (k : Nat) : Prop where
  a : 0 < k → c0 = 0
  b : 1 < k → c1 = 0
  c : 2 < k → c2 = 0
theorem nan_call (x : Int) (w : World) : Calls Tryz.prog 218 #[.int .i64 x] w fun e w' => e = .returned (.bool false) ∧ w = w' := by
  go_enter Tryz.func218, Tryz.ntmps218
  go_wp2
  go_ret
  exact ⟨rfl, rfl⟩
theorem cmp_call (x y : Int) (w : World) : Calls Tryz.prog 177 #[.int .i64 x, .int .i64 y] w fun e w' => e = .returned (.int .i64 (cmpI x y)) ∧ w = w' := by
  have hn := fun x => nan_call x w
  rcases Int.lt_trichotomy x y with h | h | h
  · rw [cmpI_lt h]
    have e1 : decide (x < y) = true := decide_eq_true h
    go_enter Tryz.func177, Tryz.ntmps177
    go_wp2_with (go_at_call 218; (with_reducible refine (hn _).mono ?_); rintro e w' ⟨rfl, rfl⟩)
    go_ret
    exact ⟨rfl, rfl⟩
  · subst h
    rw [cmpI_eq]
    have e1 : decide (x < x) = false := by simp
    go_enter Tryz.func177, Tryz.ntmps177
    go_wp2_with (go_at_call 218; (with_reducible refine (hn _).mono ?_); rintro e w' ⟨rfl, rfl⟩)
    go_ret
    exact ⟨rfl, rfl⟩
  · rw [cmpI_gt h]
    have e1 : decide (x < y) = false := by simp; omega
    have e2 : decide (y < x) = true := decide_eq_true h
    go_enter Tryz.func177, Tryz.ntmps177
    go_wp2_with (go_at_call 218; (with_reducible refine (hn _).mono ?_); rintro e w' ⟨rfl, rfl⟩)
    go_ret
    exact ⟨rfl, rfl⟩
set_option maxHeartbeats 2000000 in
theorem compare3_call (B C : Nat) (x y : Tr) (w : World) (h0 : w.cell? ⟨B, 0, none⟩ = some (.int .i64 x.1)) (h1 : w.cell? ⟨B, 1, none⟩ = some (.int .i64 x.2.1)) (h2 : w.cell? ⟨B, 2, none⟩ = some (.int .i64 x.2.2)) (k0 : w.cell? ⟨C, 0, none⟩ = some (.int .i64 y.1)) (k1 : w.cell? ⟨C, 1, none⟩ = some (.int .i64 y.2.1)) (k2 : w.cell? ⟨C, 2, none⟩ = some (.int .i64 y.2.2)) :
    Calls Tryz.prog 128 #[.slice (some ⟨B, 0, none⟩) 3 3, .slice (some ⟨C, 0, none⟩) 3 3] w fun e w' => e = .returned (.int .i64 (cmp3 x y)) ∧ w = w' := by
  obtain ⟨x0, x1, x2⟩ := x
  obtain ⟨y0, y1, y2⟩ := y
  simp only at h0 h1 h2 k0 k1 k2
  have hc := fun x y => cmp_call x y w
  have HR : Hid (cmp3 (x0, x1, x2) (y0, y1, y2) = if cmpI x0 y0 ≠ 0 then cmpI x0 y0 else if cmpI x1 y1 ≠ 0 then cmpI x1 y1 else cmpI x2 y2) := (show _ = _ from rfl)
  generalize cmp3 (x0, x1, x2) (y0, y1, y2) = r at *
  obtain ⟨c0, e0⟩ : ∃ c, c = cmpI x0 y0 := ⟨_, rfl⟩
  obtain ⟨c1, e1⟩ : ∃ c, c = cmpI x1 y1 := ⟨_, rfl⟩
  obtain ⟨c2, e2⟩ : ∃ c, c = cmpI x2 y2 := ⟨_, rfl⟩
  have hc0 := hc x0 y0
  have hc1 := hc x1 y1
  have hc2 := hc x2 y2
  rw [← e0] at hc0
  rw [← e1] at hc1
  rw [← e2] at hc2
  have HE : Hid (r = if c0 ≠ 0 then c0 else if c1 ≠ 0 then c1 else c2) := by show r = _; rw [e0, e1, e2]; exact HR.out
  clear HR e0 e1 e2 hc
  go_enter Tryz.func128, Tryz.ntmps128
  go_wp2
  go_loop [11] (fun v11 => ∃ k : Nat, k ≤ 3 ∧ v11 = .int .i64 k ∧ Zs c0 c1 c2 k) (fun v11 => 3 - (intOf v11).toNat)
  case atStart => exact ⟨0, by omega, rfl, ⟨by omega, by omega, by omega⟩⟩
  case round =>
    obtain ⟨k, hk, rfl, HK⟩ := hrel
    rcases (show k = 0 ∨ k = 1 ∨ k = 2 ∨ k = 3 by omega) with rfl | rfl | rfl | rfl
    · by_cases hz : c0 = 0
      · subst hz
        go_wp2_with (go_at_call 177; (with_reducible refine hc0.mono ?_); rintro e w' ⟨rfl, rfl⟩)
        exact ⟨⟨1, by omega, rfl, ⟨by omega, by omega, by omega⟩⟩, by simp [intOf]⟩
      · have e1 : (c0 != 0) = true := bne_iff_ne.mpr hz
        have hr : r = c0 := by rw [HE.out, if_pos hz]
        have HR := Lib.hid hr
        clear hr hz
        go_wp2_with (go_at_call 177; (with_reducible refine hc0.mono ?_); rintro e w' ⟨rfl, rfl⟩)
        go_ret
        exact ⟨ret_i64 HR.out, rfl⟩
    · by_cases hz : c1 = 0
      · subst hz
        have z0 := Lib.hid (HK.a (by omega))
        go_wp2_with (go_at_call 177; (with_reducible refine hc1.mono ?_); rintro e w' ⟨rfl, rfl⟩)
        exact ⟨⟨2, by omega, rfl, ⟨fun _ => z0.out, by omega, by omega⟩⟩, by simp [intOf]⟩
      · have e1 : (c1 != 0) = true := bne_iff_ne.mpr hz
        have hr : r = c1 := by rw [HE.out, if_neg (by have := HK.a (by omega); omega), if_pos hz]
        have HR := Lib.hid hr
        clear hr hz
        go_wp2_with (go_at_call 177; (with_reducible refine hc1.mono ?_); rintro e w' ⟨rfl, rfl⟩)
        go_ret
        exact ⟨ret_i64 HR.out, rfl⟩
    · by_cases hz : c2 = 0
      · subst hz
        have z0 := Lib.hid (And.intro (HK.a (by omega)) (HK.b (by omega)))
        go_wp2_with (go_at_call 177; (with_reducible refine hc2.mono ?_); rintro e w' ⟨rfl, rfl⟩)
        exact ⟨⟨3, by omega, rfl, ⟨fun _ => z0.out.1, fun _ => z0.out.2, by omega⟩⟩, by simp [intOf]⟩
      · have e1 : (c2 != 0) = true := bne_iff_ne.mpr hz
        have hr : r = c2 := by rw [HE.out, if_neg (by have := HK.a (by omega); omega), if_neg (by have := HK.b (by omega); omega)]
        have HR := Lib.hid hr
        clear hr hz
        go_wp2_with (go_at_call 177; (with_reducible refine hc2.mono ?_); rintro e w' ⟨rfl, rfl⟩)
        go_ret
        exact ⟨ret_i64 HR.out, rfl⟩
    · have hr : r = 0 := by rw [HE.out, if_neg (by have := HK.a (by omega); omega), if_neg (by have := HK.b (by omega); omega)]; exact HK.c (by omega)
      have HR := Lib.hid hr
      clear hr
      go_wp2
      go_ret
      exact ⟨ret_i64 HR.out, rfl⟩
end Go.Proofs.YtjiolfpahollkaaGreatDoor.Msh
end
section
set_option linter.unusedVariables false
set_option linter.unusedSimpArgs false
namespace Go.Proofs.YtjiolfpahollkaaGreatDoor.Srq
open Go.Shelf
def sortRen : Go.Shelf.Ren := ⟨fun | 6 => 126 | 15 => 176 | 14 => 175 | 28 => 216 | 29 => 217 | 20 => 208 | 21 => 209 | 22 => 210 | 23 => 211 | 24 => 212 | 25 => 213 | 26 => 214 | 27 => 215 | 46 => 247 | 47 => 248 | 48 => 249 | 49 => 250 | 50 => 251 | 57 => 282 | n => n, fun | 22 => 23 | 24 => 53 | 25 => 166 | 3 => 3 | 39 => 88 | 0 => 0 | 53 => 210 | 55 => 132 | 4 => 4 | 46 => 228 | 45 => 227 | 50 => 54 | 5 => 5 | 9 => 9 | 66 => 251 | 70 => 255 | 76 => 273 | 77 => 265 | n => n, fun n => n⟩
theorem sortL : SlLaysF0.n6 Tryz.prog sortRen := {
  mixed := by kernel_rfl,
  f6 := ⟨Tryz.f126.name, by decide, Tryz.func126.trans (congrArg some (by kernel_rfl))⟩,
  f14 := ⟨Tryz.f175.name, by decide, Tryz.func175.trans (congrArg some (by kernel_rfl))⟩,
  f15 := Tryz.func176.trans (congrArg some (by kernel_rfl)),
  f20 := ⟨Tryz.f208.name, by decide, Tryz.func208.trans (congrArg some (by kernel_rfl))⟩,
  f21 := ⟨Tryz.f209.name, by decide, Tryz.func209.trans (congrArg some (by kernel_rfl))⟩,
  f22 := ⟨Tryz.f210.name, by decide, Tryz.func210.trans (congrArg some (by kernel_rfl))⟩,
  f23 := ⟨Tryz.f211.name, by decide, Tryz.func211.trans (congrArg some (by kernel_rfl))⟩,
  f24 := ⟨Tryz.f212.name, by decide, Tryz.func212.trans (congrArg some (by kernel_rfl))⟩,
  f25 := ⟨Tryz.f213.name, by decide, Tryz.func213.trans (congrArg some (by kernel_rfl))⟩,
  f26 := ⟨Tryz.f214.name, by decide, Tryz.func214.trans (congrArg some (by kernel_rfl))⟩,
  f27 := ⟨Tryz.f215.name, by decide, Tryz.func215.trans (congrArg some (by kernel_rfl))⟩,
  f28 := Tryz.func216.trans (congrArg some (by kernel_rfl)),
  f29 := Tryz.func217.trans (congrArg some (by kernel_rfl)),
  f46 := ⟨Tryz.f247.name, by decide, Tryz.func247.trans (congrArg some (by kernel_rfl))⟩,
  f47 := Tryz.func248.trans (congrArg some (by kernel_rfl)),
  f48 := Tryz.func249.trans (congrArg some (by kernel_rfl)),
  f49 := ⟨Tryz.f250.name, by decide, Tryz.func250.trans (congrArg some (by kernel_rfl))⟩,
  f50 := ⟨Tryz.f251.name, by decide, Tryz.func251.trans (congrArg some (by kernel_rfl))⟩,
  f57 := ⟨Tryz.f282.name, by decide, Tryz.func282.trans (congrArg some (by kernel_rfl))⟩,
  t0 := Tryz.underlying0,
  a0 := Tryz.isAgg0,
  z0 := Tryz.sizeOf0,
  v0 := Tryz.zeroValue0,
  t3 := Tryz.underlying3,
  a3 := Tryz.isAgg3,
  z3 := Tryz.sizeOf3,
  v3 := Tryz.zeroValue3,
  t4 := Tryz.underlying4,
  a4 := Tryz.isAgg4,
  z4 := Tryz.sizeOf4,
  v4 := Tryz.zeroValue4,
  t5 := Tryz.underlying5,
  a5 := Tryz.isAgg5,
  z5 := Tryz.sizeOf5,
  v5 := Tryz.zeroValue5,
  t9 := Tryz.underlying9,
  a9 := Tryz.isAgg9,
  z9 := Tryz.sizeOf9,
  v9 := Tryz.zeroValue9,
  t22 := Tryz.underlying23,
  a22 := Tryz.isAgg23,
  z22 := Tryz.sizeOf23,
  v22 := Tryz.zeroValue23,
  t25 := Tryz.underlying166,
  a25 := Tryz.isAgg166,
  z25 := Tryz.sizeOf166,
  v25 := Tryz.zeroValue166,
  t39 := Tryz.underlying88,
  a39 := Tryz.isAgg88,
  z39 := Tryz.sizeOf88,
  v39 := Tryz.zeroValue88,
  t45 := Tryz.underlying227,
  a45 := Tryz.isAgg227,
  z45 := Tryz.sizeOf227,
  v45 := Tryz.zeroValue227,
  t46 := Tryz.underlying228,
  a46 := Tryz.isAgg228,
  z46 := Tryz.sizeOf228,
  v46 := Tryz.zeroValue228,
  t50 := Tryz.underlying54,
  a50 := Tryz.isAgg54,
  z50 := Tryz.sizeOf54,
  v50 := Tryz.zeroValue54,
  t53 := Tryz.underlying210,
  a53 := Tryz.isAgg210,
  z53 := Tryz.sizeOf210,
  v53 := Tryz.zeroValue210,
  t55 := Tryz.underlying132,
  a55 := Tryz.isAgg132,
  z55 := Tryz.sizeOf132,
  v55 := Tryz.zeroValue132,
  t66 := Tryz.underlying251,
  a66 := Tryz.isAgg251,
  z66 := Tryz.sizeOf251,
  v66 := Tryz.zeroValue251,
  t70 := Tryz.underlying255,
  a70 := Tryz.isAgg255,
  z70 := Tryz.sizeOf255,
  v70 := Tryz.zeroValue255,
  t76 := Tryz.underlying273,
  a76 := Tryz.isAgg273,
  z76 := Tryz.sizeOf273,
  v76 := Tryz.zeroValue273,
  t77 := Tryz.underlying265,
  a77 := Tryz.isAgg265,
  z77 := Tryz.sizeOf265,
  v77 := Tryz.zeroValue265 }
end Go.Proofs.YtjiolfpahollkaaGreatDoor.Srq
end
