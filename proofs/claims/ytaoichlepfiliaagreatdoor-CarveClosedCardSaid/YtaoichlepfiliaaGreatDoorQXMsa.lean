/- Lemmas of Msa. Conditions stand in each. -/
import Derived.Test.YtaoichlepfiliaaGreatDoorProg
import Derived.DeepKeys4
import Derived.KernelRfl
import Derived.Test.YtaoichlepfiliaaGreatDoorQXMmp
import Derived.Test.YtaoichlepfiliaaGreatDoorQXMpb
import Derived.WalkKit
import Derived.LoopTactic
import Derived.Lib.Hide
import Derived.Shelf.SlSortCmp.NoneTotal
set_option linter.unusedSimpArgs false
set_option linter.unusedVariables false
section
namespace Go.Proofs.YtaoichlepfiliaaGreatDoor.Msh
open Go.RowKit Go.Proofs.YtaoichlepfiliaaGreatDoor.Mp
theorem laidOut3 : laidOutB Tryz.prog = true := by kernel_rfl
def W64 (x : Int) : Prop := (Lit.int .i64 x).wf = true
def encE (p : Int × Int) : Value := .agg #[.int .i64 p.1, .int .i64 p.2]
def encT (t : Tr) : Value := .agg #[.int .i64 t.1, .int .i64 t.2.1, .int .i64 t.2.2]
def okE (p : Int × Int) : Prop := W64 p.1 ∧ W64 p.2
def okT (t : Tr) : Prop := W64 t.1 ∧ W64 t.2.1 ∧ W64 t.2.2
theorem encE_inj (x y : Int × Int) (h : encE x = encE y) : x = y := by
 unfold encE at h
 simp at h
 exact Prod.ext h.1 h.2
theorem encT_inj (x y : Tr) (h : encT x = encT y) : x = y := by
 unfold encT at h
 simp at h
 exact Prod.ext h.1 (Prod.ext h.2.1 h.2.2)
theorem size_two : ∃ n, Tryz.prog.types.size + 1 = n + 2 := ⟨Tryz.prog.types.size - 1, by have : 0 < Tryz.prog.types.size := of_decide_eq_true (by kernel_rfl); omega⟩
theorem lits2 {P : Program} {K e : TypeId} {n : Nat} (hK : P.underlying K = some (.array 2 e)) (he : P.underlying e = some (.int .i64)) (hc : P.cellsOf K = 2) (hce : P.cellsOf e = 1) {a b : Int} (ha : (Lit.int .i64 a).wf = true) (hb : (Lit.int .i64 b).wf = true) :
 ∃ ls, P.keyLits (n + 2) K [.int .i64 a, .int .i64 b] = some ls := by
 refine ⟨[.int .i64 a, .int .i64 b], ?_⟩
 simp [Program.keyLits, hK, he, hc, hce, ha, hb, List.range_succ]
theorem lits3 {P : Program} {K e : TypeId} {n : Nat} (hK : P.underlying K = some (.array 3 e)) (he : P.underlying e = some (.int .i64)) (hc : P.cellsOf K = 3) (hce : P.cellsOf e = 1) {a b c : Int} (ha : (Lit.int .i64 a).wf = true) (hb : (Lit.int .i64 b).wf = true) (hd : (Lit.int .i64 c).wf = true) :
 ∃ ls, P.keyLits (n + 2) K [.int .i64 a, .int .i64 b, .int .i64 c] = some ls := by
 refine ⟨[.int .i64 a, .int .i64 b, .int .i64 c], ?_⟩
 simp [Program.keyLits, hK, he, hc, hce, ha, hb, hd, List.range_succ]
theorem keyOf_arr {P : Program} {K e : TypeId} {m : Nat} (hK : P.underlying K = some (.array m e)) (hk : P.keyType K = true) {cs : Array Value} (hc : cs.size = P.cellsOf K) {ls : List Lit} (h : P.keyLits (P.types.size + 1) K cs.toList = some ls) : ∃ l, keyOf P K (.agg cs) = some l := by
 refine ⟨.string (keyBytes ls), ?_⟩
 unfold keyOf
 rw [hK]
 simp [hk, Value.formed, hK, hc, Value.cells, h]
theorem keyE (p : Int × Int) (h : okE p) : ∃ l, keyOf Tryz.prog 91 (encE p) = some l := by
 obtain ⟨n, hn⟩ := size_two
 have hc : Tryz.prog.cellsOf 91 = 2 := by kernel_rfl
 obtain ⟨ls, hl⟩ := lits2 (n := n) Tryz.underlying91 Tryz.underlying3 hc (by kernel_rfl) h.1 h.2
 rw [← hn] at hl
 exact keyOf_arr Tryz.underlying91 (by kernel_rfl) hc.symm hl
theorem keyT (t : Tr) (h : okT t) : ∃ l, keyOf Tryz.prog 53 (encT t) = some l := by
 obtain ⟨n, hn⟩ := size_two
 have hc : Tryz.prog.cellsOf 53 = 3 := by kernel_rfl
 obtain ⟨ls, hl⟩ := lits3 (n := n) Tryz.underlying53 Tryz.underlying3 hc (by kernel_rfl) h.1 h.2.1 h.2.2
 rw [← hn] at hl
 exact keyOf_arr Tryz.underlying53 (by kernel_rfl) hc.symm hl
theorem lawE : WideMaps.KeyLaw Tryz.prog 91 := deep_law_laid laidOut3 (m := 2) (by omega) (of_decide_eq_true (by kernel_rfl)) (by kernel_rfl) (by rw [Tryz.underlying91])
theorem lawT : WideMaps.KeyLaw Tryz.prog 53 := deep_law_laid laidOut3 (m := 2) (by omega) (of_decide_eq_true (by kernel_rfl)) (by kernel_rfl) (by rw [Tryz.underlying53])
theorem kE : Key Tryz.prog 91 encE okE := ⟨Maps.Keyed.of_law lawE, keyE, encE_inj⟩
theorem kT : Key Tryz.prog 53 encT okT := ⟨Maps.Keyed.of_law lawT, keyT, encT_inj⟩
theorem kI : Key Tryz.prog 3 (fun x : Int => Value.int .i64 x) W64 := ⟨Maps.int_keyed Tryz.underlying3, fun x h => ⟨_, Maps.keyOf_int_mk Tryz.underlying3 h⟩, fun x y h => by injection h⟩
end Go.Proofs.YtaoichlepfiliaaGreatDoor.Msh
end
section
namespace Go.Proofs.YtaoichlepfiliaaGreatDoor.Msh
open Go.RowKit
def cmpI (x y : Int) : Int := if x < y then -1 else if y < x then 1 else 0
def cmp3 (x y : Tr) : Int := if cmpI x.1 y.1 ≠ 0 then cmpI x.1 y.1 else if cmpI x.2.1 y.2.1 ≠ 0 then cmpI x.2.1 y.2.1 else cmpI x.2.2 y.2.2
theorem cmpI_lt {x y : Int} (h : x < y) : cmpI x y = -1 := by unfold cmpI; rw [if_pos h]
theorem cmpI_gt {x y : Int} (h : y < x) : cmpI x y = 1 := by unfold cmpI; rw [if_neg (by omega), if_pos h]
theorem cmpI_eq (x : Int) : cmpI x x = 0 := by unfold cmpI; rw [if_neg (by omega), if_neg (by omega)]
theorem cmp3_lt {x y : Tr} : cmp3 x y < 0 ↔ lt3 x y := by
 unfold cmp3 lt3
 rcases Int.lt_trichotomy x.1 y.1 with h | h | h
 ·rw [cmpI_lt h, if_pos (by decide)]; omega
 ·rw [h, cmpI_eq, if_neg (by decide)]
  rcases Int.lt_trichotomy x.2.1 y.2.1 with k | k | k
  ·rw [cmpI_lt k, if_pos (by decide)]; omega
  ·rw [k, cmpI_eq, if_neg (by decide)]
   rcases Int.lt_trichotomy x.2.2 y.2.2 with q | q | q
   ·rw [cmpI_lt q]; omega
   ·rw [q, cmpI_eq]; omega
   ·rw [cmpI_gt q]; omega
  ·rw [cmpI_gt k, if_pos (by decide)]; omega
 ·rw [cmpI_gt h, if_pos (by decide)]; omega
theorem ret_i64 {a b : Int} (h : b = a) : Ending.returned (.int .i64 a) = .returned (.int .i64 b) := by rw [h]
structure Zs (c0 c1 c2 : Int) (k : Nat) : Prop where
 a : 0 < k → c0 = 0
 b : 1 < k → c1 = 0
 c : 2 < k → c2 = 0
theorem nan_call (x : Int) (w : World) : Calls Tryz.prog 139 #[.int .i64 x] w fun e w' => e = .returned (.bool false) ∧ w = w' := by
 go_enter Tryz.func139, Tryz.ntmps139
 go_wp2
 go_ret
 exact ⟨rfl, rfl⟩
theorem cmp_call (x y : Int) (w : World) : Calls Tryz.prog 110 #[.int .i64 x, .int .i64 y] w fun e w' => e = .returned (.int .i64 (cmpI x y)) ∧ w = w' := by
 have hn := fun x => nan_call x w
 rcases Int.lt_trichotomy x y with h | h | h
 ·rw [cmpI_lt h]
  have e1 : decide (x < y) = true := decide_eq_true h
  go_enter Tryz.func110, Tryz.ntmps110
  go_wp2_with (go_at_call 139; (with_reducible refine (hn _).mono ?_); rintro e w' ⟨rfl, rfl⟩)
  go_ret
  exact ⟨rfl, rfl⟩
 ·subst h
  rw [cmpI_eq]
  have e1 : decide (x < x) = false := by simp
  go_enter Tryz.func110, Tryz.ntmps110
  go_wp2_with (go_at_call 139; (with_reducible refine (hn _).mono ?_); rintro e w' ⟨rfl, rfl⟩)
  go_ret
  exact ⟨rfl, rfl⟩
 ·rw [cmpI_gt h]
  have e1 : decide (x < y) = false := by simp; omega
  have e2 : decide (y < x) = true := decide_eq_true h
  go_enter Tryz.func110, Tryz.ntmps110
  go_wp2_with (go_at_call 139; (with_reducible refine (hn _).mono ?_); rintro e w' ⟨rfl, rfl⟩)
  go_ret
  exact ⟨rfl, rfl⟩
set_option maxHeartbeats 2000000 in
theorem compare3_call (B C : Nat) (x y : Tr) (w : World) (h0 : w.cell? ⟨B, 0, none⟩ = some (.int .i64 x.1)) (h1 : w.cell? ⟨B, 1, none⟩ = some (.int .i64 x.2.1)) (h2 : w.cell? ⟨B, 2, none⟩ = some (.int .i64 x.2.2)) (k0 : w.cell? ⟨C, 0, none⟩ = some (.int .i64 y.1)) (k1 : w.cell? ⟨C, 1, none⟩ = some (.int .i64 y.2.1)) (k2 : w.cell? ⟨C, 2, none⟩ = some (.int .i64 y.2.2)) :
 Calls Tryz.prog 83 #[.slice (some ⟨B, 0, none⟩) 3 3, .slice (some ⟨C, 0, none⟩) 3 3] w fun e w' => e = .returned (.int .i64 (cmp3 x y)) ∧ w = w' := by
 obtain ⟨x0, x1, x2⟩ := x
 obtain ⟨y0, y1, y2⟩ := y
 simp only at h0 h1 h2 k0 k1 k2
 have hc := fun x y => cmp_call x y w
 have HR : Hid (cmp3 (x0, x1, x2) (y0, y1, y2) = if cmpI x0 y0 ≠ 0 then cmpI x0 y0 else if cmpI x1 y1 ≠ 0 then cmpI x1 y1 else cmpI x2 y2) := (show _ = _ from rfl)
 generalize cmp3 (x0, x1, x2) (y0, y1, y2) = r at *
 obtain ⟨c0, e0⟩ : ∃ c, c = cmpI x0 y0 := ⟨_, rfl⟩
 obtain ⟨c1, e1⟩ : ∃ c, c = cmpI x1 y1 := ⟨_, rfl⟩
 obtain ⟨c2, e2⟩ : ∃ c, c = cmpI x2 y2 := ⟨_, rfl⟩
 have hc0 := hc x0 y0
 have hc1 := hc x1 y1
 have hc2 := hc x2 y2
 rw [← e0] at hc0
 rw [← e1] at hc1
 rw [← e2] at hc2
 have HE : Hid (r = if c0 ≠ 0 then c0 else if c1 ≠ 0 then c1 else c2) := by show r = _; rw [e0, e1, e2]; exact HR.out
 clear HR e0 e1 e2 hc
 go_enter Tryz.func83, Tryz.ntmps83
 go_wp2
 go_loop [11] (fun v11 => ∃ k : Nat, k ≤ 3 ∧ v11 = .int .i64 k ∧ Zs c0 c1 c2 k) (fun v11 => 3 - (intOf v11).toNat)
 case atStart => exact ⟨0, by omega, rfl, ⟨by omega, by omega, by omega⟩⟩
 case round =>
  obtain ⟨k, hk, rfl, HK⟩ := hrel
  rcases (show k = 0 ∨ k = 1 ∨ k = 2 ∨ k = 3 by omega) with rfl | rfl | rfl | rfl
  ·by_cases hz : c0 = 0
   ·subst hz
    go_wp2_with (go_at_call 110; (with_reducible refine hc0.mono ?_); rintro e w' ⟨rfl, rfl⟩)
    exact ⟨⟨1, by omega, rfl, ⟨by omega, by omega, by omega⟩⟩, by simp [intOf]⟩
   ·have e1 : (c0 != 0) = true := bne_iff_ne.mpr hz
    have hr : r = c0 := by rw [HE.out, if_pos hz]
    have HR := Lib.hid hr
    clear hr hz
    go_wp2_with (go_at_call 110; (with_reducible refine hc0.mono ?_); rintro e w' ⟨rfl, rfl⟩)
    go_ret
    exact ⟨ret_i64 HR.out, rfl⟩
  ·by_cases hz : c1 = 0
   ·subst hz
    have z0 := Lib.hid (HK.a (by omega))
    go_wp2_with (go_at_call 110; (with_reducible refine hc1.mono ?_); rintro e w' ⟨rfl, rfl⟩)
    exact ⟨⟨2, by omega, rfl, ⟨fun _ => z0.out, by omega, by omega⟩⟩, by simp [intOf]⟩
   ·have e1 : (c1 != 0) = true := bne_iff_ne.mpr hz
    have hr : r = c1 := by rw [HE.out, if_neg (by have := HK.a (by omega); omega), if_pos hz]
    have HR := Lib.hid hr
    clear hr hz
    go_wp2_with (go_at_call 110; (with_reducible refine hc1.mono ?_); rintro e w' ⟨rfl, rfl⟩)
    go_ret
    exact ⟨ret_i64 HR.out, rfl⟩
  ·by_cases hz : c2 = 0
   ·subst hz
    have z0 := Lib.hid (And.intro (HK.a (by omega)) (HK.b (by omega)))
    go_wp2_with (go_at_call 110; (with_reducible refine hc2.mono ?_); rintro e w' ⟨rfl, rfl⟩)
    exact ⟨⟨3, by omega, rfl, ⟨fun _ => z0.out.1, fun _ => z0.out.2, by omega⟩⟩, by simp [intOf]⟩
   ·have e1 : (c2 != 0) = true := bne_iff_ne.mpr hz
    have hr : r = c2 := by rw [HE.out, if_neg (by have := HK.a (by omega); omega), if_neg (by have := HK.b (by omega); omega)]
    have HR := Lib.hid hr
    clear hr hz
    go_wp2_with (go_at_call 110; (with_reducible refine hc2.mono ?_); rintro e w' ⟨rfl, rfl⟩)
    go_ret
    exact ⟨ret_i64 HR.out, rfl⟩
  ·have hr : r = 0 := by rw [HE.out, if_neg (by have := HK.a (by omega); omega), if_neg (by have := HK.b (by omega); omega)]; exact HK.c (by omega)
   have HR := Lib.hid hr
   clear hr
   go_wp2
   go_ret
   exact ⟨ret_i64 HR.out, rfl⟩
end Go.Proofs.YtaoichlepfiliaaGreatDoor.Msh
end
section
namespace Go.Proofs.YtaoichlepfiliaaGreatDoor.Srq
open Go.Shelf
def sortRen : Go.Shelf.Ren := ⟨fun | 6 => 81 | 15 => 109 | 14 => 108 | 28 => 137 | 29 => 138 | 20 => 129 | 21 => 130 | 22 => 131 | 23 => 132 | 24 => 133 | 25 => 134 | 26 => 135 | 27 => 136 | 46 => 164 | 47 => 165 | 48 => 166 | 49 => 167 | 50 => 168 | 57 => 197 | n => n, fun | 22 => 23 | 24 => 53 | 25 => 120 | 3 => 3 | 39 => 143 | 0 => 0 | 53 => 170 | 55 => 139 | 4 => 4 | 46 => 164 | 45 => 163 | 50 => 54 | 5 => 5 | 9 => 9 | 66 => 186 | 70 => 190 | 76 => 208 | 77 => 209 | n => n, fun n => n⟩
theorem sortL : SlLaysF0.n6 Tryz.prog sortRen := {
 mixed := by kernel_rfl,
 f6 := ⟨Tryz.f81.name, by decide, Tryz.func81.trans (congrArg some (by kernel_rfl))⟩,
 f14 := ⟨Tryz.f108.name, by decide, Tryz.func108.trans (congrArg some (by kernel_rfl))⟩,
 f15 := Tryz.func109.trans (congrArg some (by kernel_rfl)),
 f20 := ⟨Tryz.f129.name, by decide, Tryz.func129.trans (congrArg some (by kernel_rfl))⟩,
 f21 := ⟨Tryz.f130.name, by decide, Tryz.func130.trans (congrArg some (by kernel_rfl))⟩,
 f22 := ⟨Tryz.f131.name, by decide, Tryz.func131.trans (congrArg some (by kernel_rfl))⟩,
 f23 := ⟨Tryz.f132.name, by decide, Tryz.func132.trans (congrArg some (by kernel_rfl))⟩,
 f24 := ⟨Tryz.f133.name, by decide, Tryz.func133.trans (congrArg some (by kernel_rfl))⟩,
 f25 := ⟨Tryz.f134.name, by decide, Tryz.func134.trans (congrArg some (by kernel_rfl))⟩,
 f26 := ⟨Tryz.f135.name, by decide, Tryz.func135.trans (congrArg some (by kernel_rfl))⟩,
 f27 := ⟨Tryz.f136.name, by decide, Tryz.func136.trans (congrArg some (by kernel_rfl))⟩,
 f28 := Tryz.func137.trans (congrArg some (by kernel_rfl)),
 f29 := Tryz.func138.trans (congrArg some (by kernel_rfl)),
 f46 := ⟨Tryz.f164.name, by decide, Tryz.func164.trans (congrArg some (by kernel_rfl))⟩,
 f47 := Tryz.func165.trans (congrArg some (by kernel_rfl)),
 f48 := Tryz.func166.trans (congrArg some (by kernel_rfl)),
 f49 := ⟨Tryz.f167.name, by decide, Tryz.func167.trans (congrArg some (by kernel_rfl))⟩,
 f50 := ⟨Tryz.f168.name, by decide, Tryz.func168.trans (congrArg some (by kernel_rfl))⟩,
 f57 := ⟨Tryz.f197.name, by decide, Tryz.func197.trans (congrArg some (by kernel_rfl))⟩,
 t0 := Tryz.underlying0,
 a0 := Tryz.isAgg0,
 z0 := Tryz.sizeOf0,
 v0 := Tryz.zeroValue0,
 t3 := Tryz.underlying3,
 a3 := Tryz.isAgg3,
 z3 := Tryz.sizeOf3,
 v3 := Tryz.zeroValue3,
 t4 := Tryz.underlying4,
 a4 := Tryz.isAgg4,
 z4 := Tryz.sizeOf4,
 v4 := Tryz.zeroValue4,
 t5 := Tryz.underlying5,
 a5 := Tryz.isAgg5,
 z5 := Tryz.sizeOf5,
 v5 := Tryz.zeroValue5,
 t9 := Tryz.underlying9,
 a9 := Tryz.isAgg9,
 z9 := Tryz.sizeOf9,
 v9 := Tryz.zeroValue9,
 t22 := Tryz.underlying23,
 a22 := Tryz.isAgg23,
 z22 := Tryz.sizeOf23,
 v22 := Tryz.zeroValue23,
 t25 := Tryz.underlying120,
 a25 := Tryz.isAgg120,
 z25 := Tryz.sizeOf120,
 v25 := Tryz.zeroValue120,
 t39 := Tryz.underlying143,
 a39 := Tryz.isAgg143,
 z39 := Tryz.sizeOf143,
 v39 := Tryz.zeroValue143,
 t45 := Tryz.underlying163,
 a45 := Tryz.isAgg163,
 z45 := Tryz.sizeOf163,
 v45 := Tryz.zeroValue163,
 t46 := Tryz.underlying164,
 a46 := Tryz.isAgg164,
 z46 := Tryz.sizeOf164,
 v46 := Tryz.zeroValue164,
 t50 := Tryz.underlying54,
 a50 := Tryz.isAgg54,
 z50 := Tryz.sizeOf54,
 v50 := Tryz.zeroValue54,
 t53 := Tryz.underlying170,
 a53 := Tryz.isAgg170,
 z53 := Tryz.sizeOf170,
 v53 := Tryz.zeroValue170,
 t55 := Tryz.underlying139,
 a55 := Tryz.isAgg139,
 z55 := Tryz.sizeOf139,
 v55 := Tryz.zeroValue139,
 t66 := Tryz.underlying186,
 a66 := Tryz.isAgg186,
 z66 := Tryz.sizeOf186,
 v66 := Tryz.zeroValue186,
 t70 := Tryz.underlying190,
 a70 := Tryz.isAgg190,
 z70 := Tryz.sizeOf190,
 v70 := Tryz.zeroValue190,
 t76 := Tryz.underlying208,
 a76 := Tryz.isAgg208,
 z76 := Tryz.sizeOf208,
 v76 := Tryz.zeroValue208,
 t77 := Tryz.underlying209,
 a77 := Tryz.isAgg209,
 z77 := Tryz.sizeOf209,
 v77 := Tryz.zeroValue209 }
end Go.Proofs.YtaoichlepfiliaaGreatDoor.Srq
end
