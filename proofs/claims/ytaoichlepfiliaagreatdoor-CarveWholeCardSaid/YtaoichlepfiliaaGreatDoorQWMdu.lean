/- Lemmas of Mdu. Conditions stand in each. -/
import Derived.Test.YtaoichlepfiliaaGreatDoorQWMdq
import Derived.Test.YtaoichlepfiliaaGreatDoorQWMcm
import Derived.Test.YtaoichlepfiliaaGreatDoorQWMco
import Derived.Test.YtaoichlepfiliaaGreatDoorQWKfl
import Derived.Test.YtaoichlepfiliaaGreatDoorQWAdm
set_option linter.unusedSimpArgs false
set_option linter.unusedVariables false
section
namespace Go.Proofs.YtaoichlepfiliaaGreatDoor.Msh
open Go.RowKit Go.Sort Go.Proofs.YtaoichlepfiliaaGreatDoor.Adm Go.Proofs.YtaoichlepfiliaaGreatDoor.Kfl Go.Proofs.YtaoichlepfiliaaGreatDoor.R Go.Proofs.YtaoichlepfiliaaGreatDoor.E Go.Proofs.YtaoichlepfiliaaGreatDoorW.PrintWords Go.Proofs.YtaoichlepfiliaaGreatDoorW.PrintLast
set_option maxRecDepth 100000 in
set_option maxHeartbeats 4000000 in
theorem idxPH_call (B C : Nat) {A : Option Addr} {c : Nat} {l : List S} {w : World} (hC : Kd.C k71 w A l.length l) (hz : l.length ≤ 1099511627776) (p : S → Bool) (hp : ∀ x ∈ l, ∀ W, Below w.heap.size w W → Calls Tryz.prog 45 #[ptV x, .pointer (some ⟨B, 0, none⟩), .pointer (some ⟨C, 0, none⟩)] W fun e w' => e = .returned (.bool (p x)) ∧ Below W.heap.size W w') :
 Calls Tryz.prog 55 #[.slice A l.length c, .func (.func 45) #[] #[.pointer (some ⟨B, 0, none⟩), .pointer (some ⟨C, 0, none⟩)]] w fun e w' => e = .returned (.int .i64 (idxF p 0 l)) ∧ Below w.heap.size w w' := by
 go_enter Tryz.func55, Tryz.ntmps55
 go_wp2
 go_loopw [8] (fun x wr => ∃ (n : Nat), x = .int .i64 n ∧ n ≤ l.length ∧ Below w.heap.size w wr ∧ Aside0 (idxF p n (l.drop n) = idxF p 0 l)) (fun x _ => l.length - (intOf x).toNat)
 case atStart => exact ⟨0, rfl, Nat.zero_le _, Below.refl _ _, ⟨rfl⟩⟩
 case round =>
  obtain ⟨n, rfl, hn, hB, hi⟩ := hrel
  by_cases hlt : n < l.length
  ·have d1 : decide ((n : Int) < (l.length : Int)) = true := by simp; omega
   have d2 : decide (n < l.length) = true := by simp; omega
   have d3 : decide ((0 : Int) ≤ n) = true := by simp
   have d5 : ((n < l.length) = True) := by simp; omega
   have ik : IntKind.i64.wrap ((n : Int) + 1) = (n : Int) + 1 := wrapN (by omega) (by omega)
   obtain ⟨ad, rfl, hx0, hx1⟩ := at_T71 (Kd.C_below hC hB) (n : Int) (by omega) (by omega)
   have hr : rd_T71 l (n : Int) = l[n] := by unfold rd_T71; rw [Int.toNat_natCast, List.getD_eq_getElem?_getD, List.getElem?_eq_getElem hlt]; rfl
   rw [Int.toNat_natCast, hr] at hx0 hx1
   replace hi := hi.out
   rw [List.drop_eq_getElem_cons hlt, idxF] at hi
   have hcl := fun W h => hp l[n] (List.getElem_mem hlt) W h
   clear hr
   generalize l[n] = x at *
   have HC := Aside0.mk hC
   clear hC
   cases hg : p x
   ·simp only [hg] at hcl
    rw [hg, if_neg (by decide)] at hi
    replace hi := Aside0.mk hi
    go_wp2_with (go_at_call 45; (with_reducible refine (hcl _ hB).mono ?_); rintro y w1 ⟨rfl, hb1⟩)
    go_roundw
    case rel => exact ⟨n + 1, by simp, by omega, hB.trans (hb1.mono hB.size), hi⟩
    case measure => simp [intOf]; omega
   ·simp only [hg] at hcl
    rw [hg, if_pos rfl] at hi
    replace hi := Aside0.mk hi
    go_wp2_with (go_at_call 45; (with_reducible refine (hcl _ hB).mono ?_); rintro y w1 ⟨rfl, hb1⟩)
    go_ret
    rw [← hi.out]
    exact ⟨rfl, hB.trans (hb1.mono hB.size)⟩
  ·have d1 : decide ((n : Int) < (l.length : Int)) = false := by simp; omega
   have d2 : decide (n < l.length) = false := by simp; omega
   have d5 : ((n < l.length) = False) := by simp; omega
   replace hi := hi.out
   rw [List.drop_eq_nil_of_le (by omega), idxF] at hi
   replace hi := Aside0.mk hi
   go_wp2
   go_ret
   rw [← hi.out]
   exact ⟨rfl, hB⟩
set_option maxHeartbeats 1000000 in
theorem hasPH_call (B C : Nat) {A : Option Addr} {c : Nat} {l : List S} {w : World} (hC : Kd.C k71 w A l.length l) (hz : l.length ≤ 1099511627776) (p : S → Bool) (hp : ∀ x ∈ l, ∀ W, Below w.heap.size w W → Calls Tryz.prog 45 #[ptV x, .pointer (some ⟨B, 0, none⟩), .pointer (some ⟨C, 0, none⟩)] W fun e w' => e = .returned (.bool (p x)) ∧ Below W.heap.size W w') :
 Calls Tryz.prog 44 #[.slice A l.length c, .func (.func 45) #[] #[.pointer (some ⟨B, 0, none⟩), .pointer (some ⟨C, 0, none⟩)]] w fun e w' => e = .returned (.bool (l.any p)) ∧ Below w.heap.size w w' := by
 have hi := idxPH_call B C (c := c) hC hz p hp
 have e := idx_any p l ⟨0, 0⟩
 generalize idxF p 0 l = q at *
 clear hp hC
 go_enter Tryz.func44, Tryz.ntmps44
 go_wp2_with (go_at_call 55; (with_reducible refine hi.mono ?_); rintro u_ w2 ⟨rfl, hb2⟩)
 go_ret
 rw [← e]
 exact ⟨rfl, hb2⟩
set_option maxRecDepth 100000 in
set_option maxHeartbeats 4000000 in
set_option maxRecDepth 100000 in
set_option maxHeartbeats 4000000 in
theorem idxPM_call {A : Option Addr} {c : Nat} {l : List S} {w : World} (hC : Kd.C k71 w A l.length l) (hz : l.length ≤ 1099511627776) (p : S → Bool) (hp : ∀ x ∈ l, ∀ W, Below w.heap.size w W → Calls Tryz.prog 77 #[ptV x] W fun e w' => e = .returned (.bool (p x)) ∧ Below W.heap.size W w') :
 Calls Tryz.prog 55 #[.slice A l.length c, .func (.func 77) #[] #[]] w fun e w' => e = .returned (.int .i64 (idxF p 0 l)) ∧ Below w.heap.size w w' := by
 go_enter Tryz.func55, Tryz.ntmps55
 go_wp2
 go_loopw [8] (fun x wr => ∃ (n : Nat), x = .int .i64 n ∧ n ≤ l.length ∧ Below w.heap.size w wr ∧ Aside0 (idxF p n (l.drop n) = idxF p 0 l)) (fun x _ => l.length - (intOf x).toNat)
 case atStart => exact ⟨0, rfl, Nat.zero_le _, Below.refl _ _, ⟨rfl⟩⟩
 case round =>
  obtain ⟨n, rfl, hn, hB, hi⟩ := hrel
  by_cases hlt : n < l.length
  ·have d1 : decide ((n : Int) < (l.length : Int)) = true := by simp; omega
   have d2 : decide (n < l.length) = true := by simp; omega
   have d3 : decide ((0 : Int) ≤ n) = true := by simp
   have d5 : ((n < l.length) = True) := by simp; omega
   have ik : IntKind.i64.wrap ((n : Int) + 1) = (n : Int) + 1 := wrapN (by omega) (by omega)
   obtain ⟨ad, rfl, hx0, hx1⟩ := at_T71 (Kd.C_below hC hB) (n : Int) (by omega) (by omega)
   have hr : rd_T71 l (n : Int) = l[n] := by unfold rd_T71; rw [Int.toNat_natCast, List.getD_eq_getElem?_getD, List.getElem?_eq_getElem hlt]; rfl
   rw [Int.toNat_natCast, hr] at hx0 hx1
   replace hi := hi.out
   rw [List.drop_eq_getElem_cons hlt, idxF] at hi
   have hcl := fun W h => hp l[n] (List.getElem_mem hlt) W h
   clear hr
   generalize l[n] = x at *
   have HC := Aside0.mk hC
   clear hC
   cases hg : p x
   ·simp only [hg] at hcl
    rw [hg, if_neg (by decide)] at hi
    replace hi := Aside0.mk hi
    go_wp2_with (go_at_call 77; (with_reducible refine (hcl _ hB).mono ?_); rintro y w1 ⟨rfl, hb1⟩)
    go_roundw
    case rel => exact ⟨n + 1, by simp, by omega, hB.trans (hb1.mono hB.size), hi⟩
    case measure => simp [intOf]; omega
   ·simp only [hg] at hcl
    rw [hg, if_pos rfl] at hi
    replace hi := Aside0.mk hi
    go_wp2_with (go_at_call 77; (with_reducible refine (hcl _ hB).mono ?_); rintro y w1 ⟨rfl, hb1⟩)
    go_ret
    rw [← hi.out]
    exact ⟨rfl, hB.trans (hb1.mono hB.size)⟩
  ·have d1 : decide ((n : Int) < (l.length : Int)) = false := by simp; omega
   have d2 : decide (n < l.length) = false := by simp; omega
   have d5 : ((n < l.length) = False) := by simp; omega
   replace hi := hi.out
   rw [List.drop_eq_nil_of_le (by omega), idxF] at hi
   replace hi := Aside0.mk hi
   go_wp2
   go_ret
   rw [← hi.out]
   exact ⟨rfl, hB⟩
set_option maxHeartbeats 1000000 in
theorem hasPM_call {A : Option Addr} {c : Nat} {l : List S} {w : World} (hC : Kd.C k71 w A l.length l) (hz : l.length ≤ 1099511627776) (p : S → Bool) (hp : ∀ x ∈ l, ∀ W, Below w.heap.size w W → Calls Tryz.prog 77 #[ptV x] W fun e w' => e = .returned (.bool (p x)) ∧ Below W.heap.size W w') :
 Calls Tryz.prog 44 #[.slice A l.length c, .func (.func 77) #[] #[]] w fun e w' => e = .returned (.bool (l.any p)) ∧ Below w.heap.size w w' := by
 have hi := idxPM_call (c := c) hC hz p hp
 have e := idx_any p l ⟨0, 0⟩
 generalize idxF p 0 l = q at *
 clear hp hC
 go_enter Tryz.func44, Tryz.ntmps44
 go_wp2_with (go_at_call 55; (with_reducible refine hi.mono ?_); rintro u_ w2 ⟨rfl, hb2⟩)
 go_ret
 rw [← e]
 exact ⟨rfl, hb2⟩
end Go.Proofs.YtaoichlepfiliaaGreatDoor.Msh
end
section
namespace Go.Proofs.YtaoichlepfiliaaGreatDoor.Msh
open Go.RowKit Go.Sort Go.ChangeMaps Go.MapKept Go.Proofs.YtaoichlepfiliaaGreatDoor.Mp Go.Proofs.YtaoichlepfiliaaGreatDoor.Adm Go.Proofs.YtaoichlepfiliaaGreatDoor.Kfl Go.Proofs.YtaoichlepfiliaaGreatDoor.R Go.Proofs.YtaoichlepfiliaaGreatDoor.E Go.Proofs.YtaoichlepfiliaaGreatDoorW.PrintWords Go.Proofs.YtaoichlepfiliaaGreatDoorW.PrintLast
section
variable {w W : World} {mb B C : Nat} {l lp : List S} {O F : List Tr} {M : Nat → Prop} {A : Option Addr} {c : Nat} {t : Tr}
set_option maxHeartbeats 1000000 in
theorem holescc_call (h : MeshAt W mb l O F M) (hk : W.cell? ⟨B, 0, none⟩ = some (ptr mb)) (hb : W.heap[C]? = some (.cells (cT t).toArray 53 (0, 0))) {p : S} (hp : gp p = true) : Calls Tryz.prog 45 #[ptV p, .pointer (some ⟨B, 0, none⟩), .pointer (some ⟨C, 0, none⟩)] W fun e w' => e = .returned (.bool (liesB l t p)) ∧ Below W.heap.size W w' := by
 have hB1 : Below W.heap.size W (W.alloc (.cells #[.float .f64 p.f0, .float .f64 p.f1] 71)) := below_alloc (Below.refl _ _) _
 have hl := lies_call (h.below hB1) t.1 t.2.1 t.2.2 hp
 have k1 := bcell hB1 hk
 have k2 := bcell hB1 ((blk_cell hb 0).trans (show _ = some (Value.int .i64 t.1) from rfl))
 have k3 := bcell hB1 ((blk_cell hb 1).trans (show _ = some (Value.int .i64 t.2.1) from rfl))
 have k4 := bcell hB1 ((blk_cell hb 2).trans (show _ = some (Value.int .i64 t.2.2) from rfl))
 rw [show ((t.1, t.2.1, t.2.2) : Tr) = t from rfl] at hl
 have HB := Aside0.mk hB1
 clear h hk hb hB1
 go_enter Tryz.func45, Tryz.ntmps45
 go_wp2_with (go_at_call 46; (with_reducible refine hl.mono ?_); rintro u_ w2 ⟨rfl, hb2⟩)
 go_ret
 exact ⟨rfl, HB.out.trans (hb2.mono HB.out.size)⟩
set_option maxHeartbeats 1000000 in
theorem holesc_call (h : MeshAt W mb l O F M) (hr : W.cell? ⟨B, 0, none⟩ = some (.slice A lp.length c)) (hk : W.cell? ⟨C, 0, none⟩ = some (ptr mb)) (hC : Kd.C k71 W A lp.length lp) (hz : lp.length ≤ 1099511627776) (hp : ∀ x ∈ lp, gp x = true) :
 Calls Tryz.prog 43 #[encT t, .pointer (some ⟨B, 0, none⟩), .pointer (some ⟨C, 0, none⟩)] W fun e w' => e = .returned (.bool (lp.any (liesB l t))) ∧ Below W.heap.size W w' := by
 obtain ⟨W1, hW1⟩ : ∃ W1, W1 = W.alloc (.cells #[.int .i64 t.1, .int .i64 t.2.1, .int .i64 t.2.2] 53) := ⟨_, rfl⟩
 have hB1 : Below W.heap.size W W1 := by rw [hW1]; exact below_alloc (Below.refl _ _) _
 have hbx : W1.heap[W.heap.size]? = some (.cells (cT t).toArray 53 (0, 0)) := by rw [hW1]; exact blk_new _ _
 have hmf : ∀ (fn : Fn) (first cap : Array Value) (w : World), (Instr.makeFunc fn first cap).run Tryz.prog w = .ok (.func fn first cap) w := fun _ _ _ _ => rfl
 have hh := hasPH_call C W.heap.size (c := c) (Kd.C_below hC hB1) hz (liesB l t) (fun x hx W' hb => holescc_call ((h.below hB1).below hb) (bcell hb (bcell hB1 hk)) (blk_then hb hbx) (hp x hx))
 have k1 := bcell hB1 hr
 have k2 := bcell hB1 hk
 rw [hW1] at hh k1 k2 hB1
 have HB := Aside0.mk hB1
 unfold encT
 clear h hr hk hC hp hbx hW1 hB1
 go_enter Tryz.func43, Tryz.ntmps43
 go_wp2_with (go_at_call 44; (with_reducible refine hh.mono ?_); rintro u_ w2 ⟨rfl, hb2⟩)
 go_ret
 exact ⟨rfl, HB.out.trans (hb2.mono HB.out.size)⟩
def wdS (x : S) : Prop := x.f0 < 2 ^ 64 ∧ x.f1 < 2 ^ 64
set_option maxHeartbeats 1000000 in
theorem mayc_call {p : S} (hp : wdS p) (W : World) : Calls Tryz.prog 77 #[ptV p] W fun e w' => e = .returned (.bool (!gp p)) ∧ Below W.heap.size W w' := by
 have hB1 : Below W.heap.size W (W.alloc (.cells #[.float .f64 p.f0, .float .f64 p.f1] 71)) := below_alloc (Below.refl _ _) _
 have hmay : ∀ W, Calls Tryz.prog 78 #[.agg #[.float .f64 p.f0, .float .f64 p.f1]] W fun e w' => e = .returned (.bool (gp p)) ∧ Below W.heap.size W w' := fun W => by
  have := admit_May.calls _ _ _ W (FltP.may_some hp.1 hp.2)
  exact this
 have HB := Aside0.mk hB1
 clear hB1 hp
 generalize gp p = g at *
 go_enter Tryz.func77, Tryz.ntmps77
 go_wp2_with (go_at_call 78; (with_reducible refine (hmay _).mono ?_); rintro u_ w2 ⟨rfl, hb2⟩)
 go_ret
 exact ⟨rfl, HB.out.trans (hb2.mono HB.out.size)⟩
set_option maxHeartbeats 1000000 in
theorem cmay_call (hC : Kd.C k71 w A lp.length lp) (hz : lp.length ≤ 1099511627776) (hp : ∀ x ∈ lp, wdS x) : Calls Tryz.prog 42 #[ptr mb, .slice A lp.length c] w fun e w' => e = .returned (.int .i64 (if lp.any (fun x => !gp x) then 10 else 0)) ∧ Below w.heap.size w w' := by
 have hh := hasPM_call (c := c) hC hz (fun x => !gp x) (fun x hx W hb => mayc_call (hp x hx) W)
 clear hC hp
 cases hg : lp.any (fun x => !gp x) <;> rw [hg] at hh
 all_goals
  clear hg
  go_enter Tryz.func42, Tryz.ntmps42
  go_wp2_with (go_at_call 44; (with_reducible refine hh.mono ?_); rintro u_ w2 ⟨rfl, hb2⟩)
  go_ret
  exact ⟨rfl, hb2⟩
set_option maxHeartbeats 1000000 in
theorem holes_call (h : MeshAt w mb l O F M) (hC : Kd.C k71 w A lp.length lp) (hz : lp.length ≤ 1099511627776) (hw : ∀ x ∈ lp, wdS x) (hp : ∀ x ∈ lp, gp x = true) : Calls Tryz.prog 12 #[ptr mb, .slice A lp.length c] w fun e w' => ∃ L, IsParts (Fixd F) O L ∧ e = .returned (.tuple #[.int .i64 (((L.filter fun p => p.any fun t => lp.any (liesB l t)).flatten.length : Nat) : Int), .int .i64 0]) ∧ MeshAt w' mb l (O.filter fun t => decide (t ∉ (L.filter fun p => p.any fun t => lp.any (liesB l t)).flatten)) F M ∧ Fr M w w' := by
 obtain ⟨W1, hW1⟩ : ∃ W1, W1 = (w.alloc (.cells #[ptr mb] 29)).alloc (.cells #[.slice A lp.length c] 22) := ⟨_, rfl⟩
 have hB1 : Below w.heap.size w W1 := by rw [hW1]; exact below_alloc (below_alloc (Below.refl _ _) _) _
 have hb0 : W1.heap[w.heap.size]? = some (.cells #[ptr mb] 29 (0, 0)) := by rw [hW1]; exact blk_alloc (blk_new _ _) _
 have hb1 : W1.heap[w.heap.size + 1]? = some (.cells #[.slice A lp.length c] 22 (0, 0)) := by rw [hW1]; exact blk_new2 _ _ _
 have hmf : ∀ (fn : Fn) (first cap : Array Value) (w : World), (Instr.makeFunc fn first cap).run Tryz.prog w = .ok (.func fn first cap) w := fun _ _ _ _ => rfl
 have hmy := cmay_call (mb := mb) (c := c) (Kd.C_below hC hB1) hz hw
 have e0 : (lp.any fun x => !gp x) = false := List.any_eq_false.mpr fun x hx => by rw [hp x hx]; decide
 rw [e0] at hmy
 have htk := fun W (hb : Below W1.heap.size W1 W) => takeH_call (w.heap.size + 1) w.heap.size ((h.below hB1).below hb) (fun t => lp.any (liesB l t)) (fun t ht W' hb' => by
  have hb2 := hb.trans (hb'.mono hb.size)
  exact holesc_call (t := t) ((h.below hB1).below hb2) (bcell hb2 (blk_cell hb1 0)) (bcell hb2 (blk_cell hb0 0)) (Kd.C_below (Kd.C_below hC hB1) hb2) hz hp)
 have k0 := fun W (hb : Below W1.heap.size W1 W) => bcell hb ((blk_cell hb0 0).trans (show _ = some (ptr mb) from rfl))
 have k1 := k0 W1 (Below.refl _ _)
 have k2 := (blk_cell hb1 0).trans (show _ = some (Value.slice A lp.length c) from rfl)
 have HB := Aside0.mk hB1
 clear h hC hz hw hp hB1 hb0 hb1 e0
 go_enter Tryz.func12, Tryz.ntmps12
 go_upto_region 1 with (fail)
 rw [← hW1]
 clear hW1
 go_wp2_with (first
  | (go_at_call 42; (with_reducible refine hmy.mono ?_); rintro u_ w2 ⟨rfl, hb2⟩; have k5 := k0 _ hb2)
  | (go_at_call 38; (with_reducible refine (htk _ hb2).mono ?_); rintro u_ w3 ⟨L, hL, he, hM2, hF2⟩; generalize hn : (L.filter fun p => p.any fun t => lp.any (liesB l t)).flatten.length = n at he; subst he))
 go_ret2
 refine ⟨L, hL, ?_, hM2, ?_⟩
 ·rw [hn]; rfl
 ·exact (Fr.of_below (M := M) (HB.out.trans (hb2.mono HB.out.size))).trans hF2 fun _ _ q => q
end
def sqL : List S := [⟨0, 0⟩, ⟨4611686018427387904, 0⟩, ⟨0, 4611686018427387904⟩, ⟨4611686018427387904, 4611686018427387904⟩]
def sqT : List Tr := [(0, 1, 2), (1, 3, 2)]
def sqE : List (Int × Int) := [(0, 1), (1, 3), (3, 2), (2, 0), (1, 2)]
def sqF (n : Nat) : List Tr := (sqE.take n).foldl (fun F p => fixF sqL F p.1 p.2 1) []
theorem sq_all : (allF sqL).2 = 0 := by kernel_rfl
theorem sq_of : ofE sqL [] sqT = (0, sqT) := by kernel_rfl
theorem sq_fix : ∀ p ∈ sqE, fixE sqL p.1 p.2 = 0 := by decide
theorem sq_one (m : Mesh sqT) {fx : Int → Int → Prop} (hf : ∀ a b, fx a b ↔ fx b a) (h : ¬ fx 1 2) : IsParts fx sqT [sqT] := by
 have h01 : Conn fx sqT (0, 1, 2) (1, 3, 2) := .step (.refl _) (by decide) ⟨1, 2, 0, 3, by decide, by decide, h⟩
 have h10 : Conn fx sqT (1, 3, 2) (0, 1, 2) := h01.symm hf (by decide)
 refine ⟨fun p hp => ?_, fun p hp => ?_, by simp, fun t ht => ⟨sqT, by simp, ht⟩, fun p hp s hs => ?_⟩
 ·rw [List.mem_singleton.mp hp]; exact m.up
 ·rw [List.mem_singleton.mp hp]; decide
 ·rw [List.mem_singleton.mp hp] at hs ⊢
  refine ⟨hs, fun t => ⟨fun ht => ?_, fun hc => hc.mem hs⟩⟩
  simp only [sqT, List.mem_cons, List.not_mem_nil, or_false] at hs ht
  rcases hs with rfl | rfl <;> rcases ht with rfl | rfl
  ·exact .refl _
  ·exact h01
  ·exact h10
  ·exact .refl _
theorem sq_two (m : Mesh sqT) {fx : Int → Int → Prop} (hf : ∀ a b, fx a b ↔ fx b a) (h : fx 1 2) : IsParts fx sqT [[(0, 1, 2)], [(1, 3, 2)]] := by
 have no : ∀ a b t, behind sqT b a = none → ¬ Beh sqT a b t := fun a b t hb ⟨d, h1, _⟩ => m.apx_none.mp hb d h1
 have n01 : ¬ Nb fx (0, 1, 2) (1, 3, 2) := fun q => by
  rcases (nb_iff m (by decide) (by decide)).mp q with ⟨q, -⟩ | ⟨-, q⟩ | ⟨q, -⟩
  ·exact no _ _ _ (by decide) q
  ·exact q h
  ·exact no _ _ _ (by decide) q
 have n10 : ¬ Nb fx (1, 3, 2) (0, 1, 2) := fun q => n01 (q.symm hf)
 have one : ∀ s t : Tr, s ∈ sqT → (∀ u ∈ sqT, Nb fx s u → u = s) → (t ∈ [s] ↔ Conn fx sqT s t) := fun s t _ hs =>
  ⟨fun q => by rw [List.mem_singleton.mp q]; exact .refl _, fun q => List.mem_singleton.mpr (Conn.closed (S := fun u => u = s) (fun u hu v hv hb => by rw [hu] at hb; exact hs v hv hb) q rfl)⟩
 refine ⟨fun p hp => ?_, fun p hp => ?_, ?_, fun t ht => ?_, fun p hp s hs => ?_⟩
 ·simp only [List.mem_cons, List.not_mem_nil, or_false] at hp
  rcases hp with rfl | rfl <;> (unfold Up; simp)
 ·simp only [List.mem_cons, List.not_mem_nil, or_false] at hp
  rcases hp with rfl | rfl <;> simp
 ·simp; decide
 ·simp only [sqT, List.mem_cons, List.not_mem_nil, or_false] at ht
  rcases ht with rfl | rfl
  ·exact ⟨[(0, 1, 2)], by simp, by simp⟩
  ·exact ⟨[(1, 3, 2)], by simp, by simp⟩
 ·simp only [List.mem_cons, List.not_mem_nil, or_false] at hp
  rcases hp with rfl | rfl
  ·rw [List.mem_singleton.mp hs]
   refine ⟨by decide, fun t => one _ t (by decide) fun u hu hb => ?_⟩
   simp only [sqT, List.mem_cons, List.not_mem_nil, or_false] at hu
   rcases hu with rfl | rfl
   ·rfl
   ·exact absurd hb n01
  ·rw [List.mem_singleton.mp hs]
   refine ⟨by decide, fun t => one _ t (by decide) fun u hu hb => ?_⟩
   simp only [sqT, List.mem_cons, List.not_mem_nil, or_false] at hu
   rcases hu with rfl | rfl
   ·exact absurd hb n10
   ·rfl
end Go.Proofs.YtaoichlepfiliaaGreatDoor.Msh
end
section
namespace Go.Proofs.YtaoichlepfiliaaGreatDoor.Kfl
open Go.RowKit Go.Sort Go.Proofs Go.Proofs.YtaoichlepfiliaaGreatDoorW.PrintWords Go.Proofs.YtaoichlepfiliaaGreatDoorW.PrintLast
theorem flat_f64 : Flat Kd.f64 (fun x => [Value.float .f64 x]) := ⟨fun _ => rfl, fun x v hv => by rw [List.mem_singleton.mp hv]; rfl, fun _ _ _ _ _ => Iff.rfl, fun _ _ _ => Iff.rfl⟩
theorem Flat.iso {α β : Type} {d : Kd α} {enc : α → List Value} (F : Flat d enc) (f : β → α) : Flat (Kd.iso d f) (fun x => enc (f x)) := ⟨fun _ => F.len _, fun _ => F.one _, fun _ _ _ _ _ => F.M _ _ _ _ _, fun _ _ _ => F.K _ _ _⟩
theorem blk_row {α : Type} {d : Kd α} {enc : α → List Value} (F : Flat d enc) {w : World} {g e : Nat} {cs : Array Value} {xs : List α} (hb : w.heap[g]? = some (.cells cs e (0, 0))) (hc : cs.toList = xs.flatMap enc) (hn : xs.length ≤ maxLen) : d.C w (some ⟨g, 0, none⟩) xs.length xs := by
 have hl : (xs.flatMap enc).length = xs.length * d.sz := flat_length F.len xs
 have hR : d.R e w 0 (fun _ => True) (.slice (some ⟨g, 0, none⟩) xs.length xs.length) xs := F.row.mpr ⟨fun _ _ => trivial, hl, .inr ⟨g, xs.length, cs, rfl, Nat.zero_le _, hb, Nat.le_refl _, hn, by rw [← hl, ← hc, Array.length_toList], by rw [hc, ← hl, List.take_length]⟩⟩
 obtain ⟨A, c, he, -, hC⟩ := Kd.R_reads hR
 injection he with he
 rw [he]
 exact hC
end Go.Proofs.YtaoichlepfiliaaGreatDoor.Kfl
namespace Go.Proofs.YtaoichlepfiliaaGreatDoor.Msh
open Go.RowKit Go.Proofs.YtaoichlepfiliaaGreatDoor.Adm Go.Proofs.YtaoichlepfiliaaGreatDoor.Kfl Go.Proofs.YtaoichlepfiliaaGreatDoor.E Go.Proofs.YtaoichlepfiliaaGreatDoor.R Go.Proofs.YtaoichlepfiliaaGreatDoorW.PrintWords Go.Proofs.YtaoichlepfiliaaGreatDoorW.PrintLast
theorem flatP : Flat k71 (fun x => [Value.float .f64 x.f0] ++ [Value.float .f64 x.f1]) := (flat_f64.pair flat_f64).iso fun x : S => (x.f0, x.f1)
end Go.Proofs.YtaoichlepfiliaaGreatDoor.Msh
end
section
namespace Go.Proofs.YtaoichlepfiliaaGreatDoor.Msh
open Go.RowKit Go.Sort Go.ChangeMaps Go.MapKept Go.Proofs.YtaoichlepfiliaaGreatDoor.Mp Go.Proofs.YtaoichlepfiliaaGreatDoor.Adm Go.Proofs.YtaoichlepfiliaaGreatDoor.Kfl Go.Proofs.YtaoichlepfiliaaGreatDoor.R Go.Proofs.YtaoichlepfiliaaGreatDoor.E Go.Proofs.YtaoichlepfiliaaGreatDoorW.PrintWords Go.Proofs.YtaoichlepfiliaaGreatDoorW.PrintLast
theorem sq_wd : Wd sqL := fun x hx => by
 simp only [sqL, List.mem_cons, List.not_mem_nil, or_false] at hx
 rcases hx with rfl | rfl | rfl | rfl <;> decide
theorem sq_of_call (A A2 : Option Addr) (w : World) (hl : Kd.C k71 w A 4 sqL) (ht : Kd.C kTr w A2 2 sqT) : Calls Tryz.prog 62 #[.slice A 4 4, .slice A2 2 2] w fun e w' => ∃ mb M, e = .returned (.tuple #[ptr mb, .int .i64 0]) ∧ MeshAt w' mb sqL sqT [] M ∧ (∀ k, M k → w.heap.size ≤ k) ∧ Below w.heap.size w w' :=
 (of_call A 4 sqL A2 2 sqT w hl (by decide) sq_wd ht (by decide)).mono fun e w' ⟨hb, h⟩ => by
  rcases h with ⟨h, -⟩ | ⟨-, h, -⟩ | ⟨-, -, mb, M, he, hm, hk⟩
  ·exact absurd sq_all h
  ·rw [sq_of] at h; exact absurd rfl h
  ·rw [sq_of] at hm; exact ⟨mb, M, he, hm, hk, hb⟩
theorem sq_next (i : Nat) (hi : i < 5) : sqF (i + 1) = fixF sqL (sqF i) (sqE.getD i (0, 0)).1 (sqE.getD i (0, 0)).2 1 := by
 rcases (show i = 0 ∨ i = 1 ∨ i = 2 ∨ i = 3 ∨ i = 4 by omega) with rfl | rfl | rfl | rfl | rfl <;> rfl
set_option maxRecDepth 100000 in
set_option maxHeartbeats 8000000 in
theorem square_call (n : Nat) (hn : n ≤ 5) (w : World) : Calls Tryz.prog 31 #[.int .i64 n] w fun e w' => ∃ mb M, e = .returned (ptr mb) ∧ MeshAt w' mb sqL sqT (sqF n) M ∧ (∀ k, M k → w.heap.size ≤ k) ∧ Below w.heap.size w w' := by
 obtain ⟨W2, hW2⟩ : ∃ W2, W2 = (w.alloc (.cells #[.float .f64 0, .float .f64 0, .float .f64 4611686018427387904, .float .f64 0, .float .f64 0, .float .f64 4611686018427387904, .float .f64 4611686018427387904, .float .f64 4611686018427387904] 71)).alloc (.cells #[.int .i64 0, .int .i64 1, .int .i64 2, .int .i64 1, .int .i64 3, .int .i64 2] 53) := ⟨_, rfl⟩
 have hB2 : Below w.heap.size w W2 := by rw [hW2]; exact below_alloc (below_alloc (Below.refl _ _) _) _
 have hof := sq_of_call (some ⟨w.heap.size, 0, none⟩) (some ⟨w.heap.size + 1, 0, none⟩) W2 (blk_row flatP (by rw [hW2]; exact blk_alloc (blk_new _ _) _) (by rfl) (by decide)) (blk_row flatT (by rw [hW2]; exact blk_new2 _ _ _) (by rfl) (by decide))
 rw [hW2] at hof
 go_enter Tryz.func31, Tryz.ntmps31
 go_wp2_with (go_at_call 62; (with_reducible refine hof.mono ?_); rintro u_ w3 ⟨mb, M, rfl, hM3, hk3, hB3⟩; rw [← hW2] at hk3 hB3)
 obtain ⟨W4, hW4⟩ : ∃ W4, W4 = w3.alloc (.cells #[.int .i64 0, .int .i64 1, .int .i64 1, .int .i64 3, .int .i64 3, .int .i64 2, .int .i64 2, .int .i64 0, .int .i64 1, .int .i64 2] 67) := ⟨_, rfl⟩
 have hB4 : Below w3.heap.size w3 W4 := by rw [hW4]; exact below_alloc (Below.refl _ _) _
 have HE4 : Aside0 (W4.heap[w3.heap.size]? = some (.cells #[.int .i64 0, .int .i64 1, .int .i64 1, .int .i64 3, .int .i64 3, .int .i64 2, .int .i64 2, .int .i64 0, .int .i64 1, .int .i64 2] 67 (0, 0)) ∧ w3.heap.size < W4.heap.size ∧ ∀ k, M k → k < w3.heap.size) := ⟨by rw [hW4]; exact blk_new _ _, by rw [hW4]; simp, hM3.old⟩
 have HB := Aside0.mk (And.intro ((hB2.trans (hB3.mono hB2.size)).trans (hB4.mono (Nat.le_trans hB2.size hB3.size))) (And.intro hk3 hB2.size))
 have HS : Aside0 (MeshAt W4 mb sqL sqT (sqF 0) M ∧ Fr M W4 W4) := ⟨⟨hM3.below hB4, Fr.refl _ _⟩⟩
 rw [← hW4]
 clear hof hW2 hB2 hM3 hk3 hB3 hB4 hW4
 generalize w3.heap.size = B5 at *
 go_loopw [4, 6] (fun v4 v6 wr => ∃ (i : Nat), v4 = .int .i64 0 ∧ v6 = .int .i64 i ∧ i ≤ n ∧ Aside0 (MeshAt wr mb sqL sqT (sqF i) M ∧ Fr M W4 wr)) (fun _ v6 _ => n - (intOf v6).toNat)
 case atStart => exact ⟨0, rfl, rfl, by omega, HS⟩
 case round =>
  clear HS
  obtain ⟨i, rfl, rfl, hi, HT⟩ := hrel
  by_cases hlt : i < n
  ·have hbk : wr.heap[B5]? = some (.cells #[.int .i64 0, .int .i64 1, .int .i64 1, .int .i64 3, .int .i64 3, .int .i64 2, .int .i64 2, .int .i64 0, .int .i64 1, .int .i64 2] 67 (0, 0)) := (HT.out.2.block B5 HE4.out.2.1 fun q => by have := HE4.out.2.2 _ q; omega).trans HE4.out.1
   have HN : Aside0 (fixF sqL (sqF i) (sqE.getD i (0, 0)).1 (sqE.getD i (0, 0)).2 1 = sqF (i + 1)) := ⟨(sq_next i (by omega)).symm⟩
   have HX : Aside0 (fixE sqL (sqE.getD i (0, 0)).1 (sqE.getD i (0, 0)).2 = 0) := ⟨sq_fix _ (by rw [List.getD_eq_getElem?_getD, List.getElem?_eq_getElem (show i < sqE.length by simp [sqE]; omega)]; exact List.getElem_mem _)⟩
   have d1 : decide (i < n) = true := decide_eq_true hlt
   have d2 : ((i < n) = True) := by simp; omega
   have HL : Aside0 (∀ W, Gr wr W → W.cell? ⟨B5, 0, none⟩ = some (.int .i64 0) ∧ W.cell? ⟨B5, 1, none⟩ = some (.int .i64 1) ∧ W.cell? ⟨B5, 2, none⟩ = some (.int .i64 1) ∧ W.cell? ⟨B5, 3, none⟩ = some (.int .i64 3) ∧ W.cell? ⟨B5, 4, none⟩ = some (.int .i64 3) ∧ W.cell? ⟨B5, 5, none⟩ = some (.int .i64 2) ∧ W.cell? ⟨B5, 6, none⟩ = some (.int .i64 2) ∧ W.cell? ⟨B5, 7, none⟩ = some (.int .i64 0) ∧ W.cell? ⟨B5, 8, none⟩ = some (.int .i64 1) ∧ W.cell? ⟨B5, 9, none⟩ = some (.int .i64 2)) := ⟨fun W hW => by have := gr_blk hbk hW; exact ⟨blk_cell this 0, blk_cell this 1, blk_cell this 2, blk_cell this 3, blk_cell this 4, blk_cell this 5, blk_cell this 6, blk_cell this 7, blk_cell this 8, blk_cell this 9⟩⟩
   have hfx := fun (W : World) (hW : Gr wr W) (a b : Int) (ha : W64 a) (hb : W64 b) => fix_call (cm := 1) (HT.out.1.below hW.below) ha hb
   have i1 : IntKind.i64.wrap 1 = 1 := by decide
   have i2 : IntKind.i64.wrap 2 = 2 := by decide
   have i3 : IntKind.i64.wrap 3 = 3 := by decide
   have i4 : IntKind.i64.wrap 4 = 4 := by decide
   have i5 : IntKind.i64.wrap 5 = 5 := by decide
   rcases (show i = 0 ∨ i = 1 ∨ i = 2 ∨ i = 3 ∨ i = 4 by omega) with rfl | rfl | rfl | rfl | rfl
   all_goals
    simp only [sqE, List.getD_cons_zero, List.getD_cons_succ] at HN HX
    go_upto_region 6 with (fail)
    go_region_held3 (fun W => W.cell? ⟨B5, 0, none⟩ = some (.int .i64 0) ∧ W.cell? ⟨B5, 1, none⟩ = some (.int .i64 1) ∧ W.cell? ⟨B5, 2, none⟩ = some (.int .i64 1) ∧ W.cell? ⟨B5, 3, none⟩ = some (.int .i64 3) ∧ W.cell? ⟨B5, 4, none⟩ = some (.int .i64 3) ∧ W.cell? ⟨B5, 5, none⟩ = some (.int .i64 2) ∧ W.cell? ⟨B5, 6, none⟩ = some (.int .i64 2) ∧ W.cell? ⟨B5, 7, none⟩ = some (.int .i64 0) ∧ W.cell? ⟨B5, 8, none⟩ = some (.int .i64 1) ∧ W.cell? ⟨B5, 9, none⟩ = some (.int .i64 2))
     (first | exact HS7.out | (with_reducible refine HL.out _ ?_; (repeat (first | assumption | exact Gr.refl _ | apply Gr.drew | apply Gr.alloc | apply Gr.drewN))))
     ((go_at_call 36; (with_reducible refine (hfx _ (by (with_reducible (repeat (first | exact Gr.refl _ | apply Gr.drew | apply Gr.drewN)))) _ _ (w64 (by decide) (by decide)) (w64 (by decide) (by decide))).mono ?_); rintro u_ w7 ⟨he, hm7, hf7⟩; rw [HX.out] at he; subst he; rw [HN.out] at hm7; have hb7 := (hf7.block B5 (blk_lt hbk) (fun q => by have := HE4.out.2.2 _ q; omega)).trans hbk; have HS7 := Aside0.mk (And.intro (blk_cell hb7 0) (And.intro (blk_cell hb7 1) (And.intro (blk_cell hb7 2) (And.intro (blk_cell hb7 3) (And.intro (blk_cell hb7 4) (And.intro (blk_cell hb7 5) (And.intro (blk_cell hb7 6) (And.intro (blk_cell hb7 7) (And.intro (blk_cell hb7 8) (blk_cell hb7 9))))))))))))
    all_goals
     go_wp2
     have HT7 := Aside0.mk (And.intro hm7 (HT.out.2.trans ((fr_of_gr (M := M) (Gr.refl wr).drew).trans hf7 fun _ _ q => q) fun _ _ q => q))
     go_roundw
     case rel => exact (by first | exact ⟨0 + 1, rfl, rfl, by omega, HT7⟩ | exact ⟨1 + 1, rfl, rfl, by omega, HT7⟩ | exact ⟨2 + 1, rfl, rfl, by omega, HT7⟩ | exact ⟨3 + 1, rfl, rfl, by omega, HT7⟩ | exact ⟨4 + 1, rfl, rfl, by omega, HT7⟩)
     case measure => simp [intOf]; omega
  ·have e : i = n := by omega
   subst e
   have d1 : decide (i < i) = false := by simp
   have HF := Aside0.mk HT.out
   clear HT
   go_wp2
   go_ret
   exact ⟨mb, M, rfl, HF.out.1, fun k hk => Nat.le_trans HB.out.2.2 (HB.out.2.1 k hk), HB.out.1.trans (HF.out.2.below (fun q hq => Nat.le_trans HB.out.2.2 (HB.out.2.1 q hq)) HB.out.1.size)⟩
end Go.Proofs.YtaoichlepfiliaaGreatDoor.Msh
end
