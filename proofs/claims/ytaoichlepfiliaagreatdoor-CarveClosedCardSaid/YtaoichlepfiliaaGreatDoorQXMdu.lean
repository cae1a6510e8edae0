/- Lemmas of Mdu. Conditions stand in each. -/
import Derived.Test.YtaoichlepfiliaaGreatDoorQXMdq
set_option linter.unusedSimpArgs false
set_option linter.unusedVariables false
section
namespace Go.Proofs.YtaoichlepfiliaaGreatDoor.Msh
open Go.RowKit Go.Sort Go.Proofs.YtaoichlepfiliaaGreatDoor.Adm Go.Proofs.YtaoichlepfiliaaGreatDoor.Kfl Go.Proofs.YtaoichlepfiliaaGreatDoor.R Go.Proofs.YtaoichlepfiliaaGreatDoor.E Go.Proofs.YtaoichlepfiliaaGreatDoorW.PrintWords Go.Proofs.YtaoichlepfiliaaGreatDoorW.PrintLast
set_option maxRecDepth 100000 in
set_option maxHeartbeats 4000000 in
theorem idxPH_call (B C : Nat) {A : Option Addr} {c : Nat} {l : List S} {w : World} (hC : Kd.C k71 w A l.length l) (hz : l.length ≤ 1099511627776) (p : S → Bool) (hp : ∀ x ∈ l, ∀ W, Below w.heap.size w W → Calls Tryz.prog 45 #[ptV x, .pointer (some ⟨B, 0, none⟩), .pointer (some ⟨C, 0, none⟩)] W fun e w' => e = .returned (.bool (p x)) ∧ Below W.heap.size W w') :
 Calls Tryz.prog 55 #[.slice A l.length c, .func (.func 45) #[] #[.pointer (some ⟨B, 0, none⟩), .pointer (some ⟨C, 0, none⟩)]] w fun e w' => e = .returned (.int .i64 (idxF p 0 l)) ∧ Below w.heap.size w w' := by
 go_enter Tryz.func55, Tryz.ntmps55
 go_wp2
 go_loopw [8] (fun x wr => ∃ (n : Nat), x = .int .i64 n ∧ n ≤ l.length ∧ Below w.heap.size w wr ∧ Aside0 (idxF p n (l.drop n) = idxF p 0 l)) (fun x _ => l.length - (intOf x).toNat)
 case atStart => exact ⟨0, rfl, Nat.zero_le _, Below.refl _ _, ⟨rfl⟩⟩
 case round =>
  obtain ⟨n, rfl, hn, hB, hi⟩ := hrel
  by_cases hlt : n < l.length
  ·have d1 : decide ((n : Int) < (l.length : Int)) = true := by simp; omega
   have d2 : decide (n < l.length) = true := by simp; omega
   have d3 : decide ((0 : Int) ≤ n) = true := by simp
   have d5 : ((n < l.length) = True) := by simp; omega
   have ik : IntKind.i64.wrap ((n : Int) + 1) = (n : Int) + 1 := wrapN (by omega) (by omega)
   obtain ⟨ad, rfl, hx0, hx1⟩ := at_T71 (Kd.C_below hC hB) (n : Int) (by omega) (by omega)
   have hr : rd_T71 l (n : Int) = l[n] := by unfold rd_T71; rw [Int.toNat_natCast, List.getD_eq_getElem?_getD, List.getElem?_eq_getElem hlt]; rfl
   rw [Int.toNat_natCast, hr] at hx0 hx1
   replace hi := hi.out
   rw [List.drop_eq_getElem_cons hlt, idxF] at hi
   have hcl := fun W h => hp l[n] (List.getElem_mem hlt) W h
   clear hr
   generalize l[n] = x at *
   have HC := Aside0.mk hC
   clear hC
   cases hg : p x
   ·simp only [hg] at hcl
    rw [hg, if_neg (by decide)] at hi
    replace hi := Aside0.mk hi
    go_wp2_with (go_at_call 45; (with_reducible refine (hcl _ hB).mono ?_); rintro y w1 ⟨rfl, hb1⟩)
    go_roundw
    case rel => exact ⟨n + 1, by simp, by omega, hB.trans (hb1.mono hB.size), hi⟩
    case measure => simp [intOf]; omega
   ·simp only [hg] at hcl
    rw [hg, if_pos rfl] at hi
    replace hi := Aside0.mk hi
    go_wp2_with (go_at_call 45; (with_reducible refine (hcl _ hB).mono ?_); rintro y w1 ⟨rfl, hb1⟩)
    go_ret
    rw [← hi.out]
    exact ⟨rfl, hB.trans (hb1.mono hB.size)⟩
  ·have d1 : decide ((n : Int) < (l.length : Int)) = false := by simp; omega
   have d2 : decide (n < l.length) = false := by simp; omega
   have d5 : ((n < l.length) = False) := by simp; omega
   replace hi := hi.out
   rw [List.drop_eq_nil_of_le (by omega), idxF] at hi
   replace hi := Aside0.mk hi
   go_wp2
   go_ret
   rw [← hi.out]
   exact ⟨rfl, hB⟩
set_option maxHeartbeats 1000000 in
theorem hasPH_call (B C : Nat) {A : Option Addr} {c : Nat} {l : List S} {w : World} (hC : Kd.C k71 w A l.length l) (hz : l.length ≤ 1099511627776) (p : S → Bool) (hp : ∀ x ∈ l, ∀ W, Below w.heap.size w W → Calls Tryz.prog 45 #[ptV x, .pointer (some ⟨B, 0, none⟩), .pointer (some ⟨C, 0, none⟩)] W fun e w' => e = .returned (.bool (p x)) ∧ Below W.heap.size W w') :
 Calls Tryz.prog 44 #[.slice A l.length c, .func (.func 45) #[] #[.pointer (some ⟨B, 0, none⟩), .pointer (some ⟨C, 0, none⟩)]] w fun e w' => e = .returned (.bool (l.any p)) ∧ Below w.heap.size w w' := by
 have hi := idxPH_call B C (c := c) hC hz p hp
 have e := idx_any p l ⟨0, 0⟩
 generalize idxF p 0 l = q at *
 clear hp hC
 go_enter Tryz.func44, Tryz.ntmps44
 go_wp2_with (go_at_call 55; (with_reducible refine hi.mono ?_); rintro u_ w2 ⟨rfl, hb2⟩)
 go_ret
 rw [← e]
 exact ⟨rfl, hb2⟩
set_option maxRecDepth 100000 in
set_option maxHeartbeats 4000000 in
theorem idxPS_call (B C : Nat) {A : Option Addr} {c : Nat} {l : List S} {w : World} (hC : Kd.C k71 w A l.length l) (hz : l.length ≤ 1099511627776) (p : S → Bool) (hp : ∀ x ∈ l, ∀ W, Below w.heap.size w W → Calls Tryz.prog 56 #[ptV x, .pointer (some ⟨B, 0, none⟩), .pointer (some ⟨C, 0, none⟩)] W fun e w' => e = .returned (.bool (p x)) ∧ Below W.heap.size W w') :
 Calls Tryz.prog 55 #[.slice A l.length c, .func (.func 56) #[] #[.pointer (some ⟨B, 0, none⟩), .pointer (some ⟨C, 0, none⟩)]] w fun e w' => e = .returned (.int .i64 (idxF p 0 l)) ∧ Below w.heap.size w w' := by
 go_enter Tryz.func55, Tryz.ntmps55
 go_wp2
 go_loopw [8] (fun x wr => ∃ (n : Nat), x = .int .i64 n ∧ n ≤ l.length ∧ Below w.heap.size w wr ∧ Aside0 (idxF p n (l.drop n) = idxF p 0 l)) (fun x _ => l.length - (intOf x).toNat)
 case atStart => exact ⟨0, rfl, Nat.zero_le _, Below.refl _ _, ⟨rfl⟩⟩
 case round =>
  obtain ⟨n, rfl, hn, hB, hi⟩ := hrel
  by_cases hlt : n < l.length
  ·have d1 : decide ((n : Int) < (l.length : Int)) = true := by simp; omega
   have d2 : decide (n < l.length) = true := by simp; omega
   have d3 : decide ((0 : Int) ≤ n) = true := by simp
   have d5 : ((n < l.length) = True) := by simp; omega
   have ik : IntKind.i64.wrap ((n : Int) + 1) = (n : Int) + 1 := wrapN (by omega) (by omega)
   obtain ⟨ad, rfl, hx0, hx1⟩ := at_T71 (Kd.C_below hC hB) (n : Int) (by omega) (by omega)
   have hr : rd_T71 l (n : Int) = l[n] := by unfold rd_T71; rw [Int.toNat_natCast, List.getD_eq_getElem?_getD, List.getElem?_eq_getElem hlt]; rfl
   rw [Int.toNat_natCast, hr] at hx0 hx1
   replace hi := hi.out
   rw [List.drop_eq_getElem_cons hlt, idxF] at hi
   have hcl := fun W h => hp l[n] (List.getElem_mem hlt) W h
   clear hr
   generalize l[n] = x at *
   have HC := Aside0.mk hC
   clear hC
   cases hg : p x
   ·simp only [hg] at hcl
    rw [hg, if_neg (by decide)] at hi
    replace hi := Aside0.mk hi
    go_wp2_with (go_at_call 56; (with_reducible refine (hcl _ hB).mono ?_); rintro y w1 ⟨rfl, hb1⟩)
    go_roundw
    case rel => exact ⟨n + 1, by simp, by omega, hB.trans (hb1.mono hB.size), hi⟩
    case measure => simp [intOf]; omega
   ·simp only [hg] at hcl
    rw [hg, if_pos rfl] at hi
    replace hi := Aside0.mk hi
    go_wp2_with (go_at_call 56; (with_reducible refine (hcl _ hB).mono ?_); rintro y w1 ⟨rfl, hb1⟩)
    go_ret
    rw [← hi.out]
    exact ⟨rfl, hB.trans (hb1.mono hB.size)⟩
  ·have d1 : decide ((n : Int) < (l.length : Int)) = false := by simp; omega
   have d2 : decide (n < l.length) = false := by simp; omega
   have d5 : ((n < l.length) = False) := by simp; omega
   replace hi := hi.out
   rw [List.drop_eq_nil_of_le (by omega), idxF] at hi
   replace hi := Aside0.mk hi
   go_wp2
   go_ret
   rw [← hi.out]
   exact ⟨rfl, hB⟩
set_option maxRecDepth 100000 in
set_option maxHeartbeats 4000000 in
theorem idxPM_call {A : Option Addr} {c : Nat} {l : List S} {w : World} (hC : Kd.C k71 w A l.length l) (hz : l.length ≤ 1099511627776) (p : S → Bool) (hp : ∀ x ∈ l, ∀ W, Below w.heap.size w W → Calls Tryz.prog 77 #[ptV x] W fun e w' => e = .returned (.bool (p x)) ∧ Below W.heap.size W w') :
 Calls Tryz.prog 55 #[.slice A l.length c, .func (.func 77) #[] #[]] w fun e w' => e = .returned (.int .i64 (idxF p 0 l)) ∧ Below w.heap.size w w' := by
 go_enter Tryz.func55, Tryz.ntmps55
 go_wp2
 go_loopw [8] (fun x wr => ∃ (n : Nat), x = .int .i64 n ∧ n ≤ l.length ∧ Below w.heap.size w wr ∧ Aside0 (idxF p n (l.drop n) = idxF p 0 l)) (fun x _ => l.length - (intOf x).toNat)
 case atStart => exact ⟨0, rfl, Nat.zero_le _, Below.refl _ _, ⟨rfl⟩⟩
 case round =>
  obtain ⟨n, rfl, hn, hB, hi⟩ := hrel
  by_cases hlt : n < l.length
  ·have d1 : decide ((n : Int) < (l.length : Int)) = true := by simp; omega
   have d2 : decide (n < l.length) = true := by simp; omega
   have d3 : decide ((0 : Int) ≤ n) = true := by simp
   have d5 : ((n < l.length) = True) := by simp; omega
   have ik : IntKind.i64.wrap ((n : Int) + 1) = (n : Int) + 1 := wrapN (by omega) (by omega)
   obtain ⟨ad, rfl, hx0, hx1⟩ := at_T71 (Kd.C_below hC hB) (n : Int) (by omega) (by omega)
   have hr : rd_T71 l (n : Int) = l[n] := by unfold rd_T71; rw [Int.toNat_natCast, List.getD_eq_getElem?_getD, List.getElem?_eq_getElem hlt]; rfl
   rw [Int.toNat_natCast, hr] at hx0 hx1
   replace hi := hi.out
   rw [List.drop_eq_getElem_cons hlt, idxF] at hi
   have hcl := fun W h => hp l[n] (List.getElem_mem hlt) W h
   clear hr
   generalize l[n] = x at *
   have HC := Aside0.mk hC
   clear hC
   cases hg : p x
   ·simp only [hg] at hcl
    rw [hg, if_neg (by decide)] at hi
    replace hi := Aside0.mk hi
    go_wp2_with (go_at_call 77; (with_reducible refine (hcl _ hB).mono ?_); rintro y w1 ⟨rfl, hb1⟩)
    go_roundw
    case rel => exact ⟨n + 1, by simp, by omega, hB.trans (hb1.mono hB.size), hi⟩
    case measure => simp [intOf]; omega
   ·simp only [hg] at hcl
    rw [hg, if_pos rfl] at hi
    replace hi := Aside0.mk hi
    go_wp2_with (go_at_call 77; (with_reducible refine (hcl _ hB).mono ?_); rintro y w1 ⟨rfl, hb1⟩)
    go_ret
    rw [← hi.out]
    exact ⟨rfl, hB.trans (hb1.mono hB.size)⟩
  ·have d1 : decide ((n : Int) < (l.length : Int)) = false := by simp; omega
   have d2 : decide (n < l.length) = false := by simp; omega
   have d5 : ((n < l.length) = False) := by simp; omega
   replace hi := hi.out
   rw [List.drop_eq_nil_of_le (by omega), idxF] at hi
   replace hi := Aside0.mk hi
   go_wp2
   go_ret
   rw [← hi.out]
   exact ⟨rfl, hB⟩
set_option maxHeartbeats 1000000 in
theorem hasPM_call {A : Option Addr} {c : Nat} {l : List S} {w : World} (hC : Kd.C k71 w A l.length l) (hz : l.length ≤ 1099511627776) (p : S → Bool) (hp : ∀ x ∈ l, ∀ W, Below w.heap.size w W → Calls Tryz.prog 77 #[ptV x] W fun e w' => e = .returned (.bool (p x)) ∧ Below W.heap.size W w') :
 Calls Tryz.prog 44 #[.slice A l.length c, .func (.func 77) #[] #[]] w fun e w' => e = .returned (.bool (l.any p)) ∧ Below w.heap.size w w' := by
 have hi := idxPM_call (c := c) hC hz p hp
 have e := idx_any p l ⟨0, 0⟩
 generalize idxF p 0 l = q at *
 clear hp hC
 go_enter Tryz.func44, Tryz.ntmps44
 go_wp2_with (go_at_call 55; (with_reducible refine hi.mono ?_); rintro u_ w2 ⟨rfl, hb2⟩)
 go_ret
 rw [← e]
 exact ⟨rfl, hb2⟩
end Go.Proofs.YtaoichlepfiliaaGreatDoor.Msh
end
section
namespace Go.Proofs.YtaoichlepfiliaaGreatDoor.Msh
open Go.RowKit Go.Sort Go.ChangeMaps Go.MapKept Go.Proofs.YtaoichlepfiliaaGreatDoor.Mp Go.Proofs.YtaoichlepfiliaaGreatDoor.Adm Go.Proofs.YtaoichlepfiliaaGreatDoor.Kfl Go.Proofs.YtaoichlepfiliaaGreatDoor.R Go.Proofs.YtaoichlepfiliaaGreatDoor.E Go.Proofs.YtaoichlepfiliaaGreatDoorW.PrintWords Go.Proofs.YtaoichlepfiliaaGreatDoorW.PrintLast
section
variable {w W : World} {mb B C : Nat} {l lp : List S} {O F : List Tr} {M : Nat → Prop} {A : Option Addr} {c : Nat} {t : Tr}
set_option maxHeartbeats 1000000 in
theorem holescc_call (h : MeshAt W mb l O F M) (hk : W.cell? ⟨B, 0, none⟩ = some (ptr mb)) (hb : W.heap[C]? = some (.cells (cT t).toArray 53 (0, 0))) {p : S} (hp : gp p = true) : Calls Tryz.prog 45 #[ptV p, .pointer (some ⟨B, 0, none⟩), .pointer (some ⟨C, 0, none⟩)] W fun e w' => e = .returned (.bool (liesB l t p)) ∧ Below W.heap.size W w' := by
 have hB1 : Below W.heap.size W (W.alloc (.cells #[.float .f64 p.f0, .float .f64 p.f1] 71)) := below_alloc (Below.refl _ _) _
 have hl := lies_call (h.below hB1) t.1 t.2.1 t.2.2 hp
 have k1 := bcell hB1 hk
 have k2 := bcell hB1 ((blk_cell hb 0).trans (show _ = some (Value.int .i64 t.1) from rfl))
 have k3 := bcell hB1 ((blk_cell hb 1).trans (show _ = some (Value.int .i64 t.2.1) from rfl))
 have k4 := bcell hB1 ((blk_cell hb 2).trans (show _ = some (Value.int .i64 t.2.2) from rfl))
 rw [show ((t.1, t.2.1, t.2.2) : Tr) = t from rfl] at hl
 have HB := Aside0.mk hB1
 clear h hk hb hB1
 go_enter Tryz.func45, Tryz.ntmps45
 go_wp2_with (go_at_call 46; (with_reducible refine hl.mono ?_); rintro u_ w2 ⟨rfl, hb2⟩)
 go_ret
 exact ⟨rfl, HB.out.trans (hb2.mono HB.out.size)⟩
set_option maxHeartbeats 1000000 in
theorem holesc_call (h : MeshAt W mb l O F M) (hr : W.cell? ⟨B, 0, none⟩ = some (.slice A lp.length c)) (hk : W.cell? ⟨C, 0, none⟩ = some (ptr mb)) (hC : Kd.C k71 W A lp.length lp) (hz : lp.length ≤ 1099511627776) (hp : ∀ x ∈ lp, gp x = true) :
 Calls Tryz.prog 43 #[encT t, .pointer (some ⟨B, 0, none⟩), .pointer (some ⟨C, 0, none⟩)] W fun e w' => e = .returned (.bool (lp.any (liesB l t))) ∧ Below W.heap.size W w' := by
 obtain ⟨W1, hW1⟩ : ∃ W1, W1 = W.alloc (.cells #[.int .i64 t.1, .int .i64 t.2.1, .int .i64 t.2.2] 53) := ⟨_, rfl⟩
 have hB1 : Below W.heap.size W W1 := by rw [hW1]; exact below_alloc (Below.refl _ _) _
 have hbx : W1.heap[W.heap.size]? = some (.cells (cT t).toArray 53 (0, 0)) := by rw [hW1]; exact blk_new _ _
 have hmf : ∀ (fn : Fn) (first cap : Array Value) (w : World), (Instr.makeFunc fn first cap).run Tryz.prog w = .ok (.func fn first cap) w := fun _ _ _ _ => rfl
 have hh := hasPH_call C W.heap.size (c := c) (Kd.C_below hC hB1) hz (liesB l t) (fun x hx W' hb => holescc_call ((h.below hB1).below hb) (bcell hb (bcell hB1 hk)) (blk_then hb hbx) (hp x hx))
 have k1 := bcell hB1 hr
 have k2 := bcell hB1 hk
 rw [hW1] at hh k1 k2 hB1
 have HB := Aside0.mk hB1
 unfold encT
 clear h hr hk hC hp hbx hW1 hB1
 go_enter Tryz.func43, Tryz.ntmps43
 go_wp2_with (go_at_call 44; (with_reducible refine hh.mono ?_); rintro u_ w2 ⟨rfl, hb2⟩)
 go_ret
 exact ⟨rfl, HB.out.trans (hb2.mono HB.out.size)⟩
def wdS (x : S) : Prop := x.f0 < 2 ^ 64 ∧ x.f1 < 2 ^ 64
set_option maxHeartbeats 1000000 in
theorem mayc_call {p : S} (hp : wdS p) (W : World) : Calls Tryz.prog 77 #[ptV p] W fun e w' => e = .returned (.bool (!gp p)) ∧ Below W.heap.size W w' := by
 have hB1 : Below W.heap.size W (W.alloc (.cells #[.float .f64 p.f0, .float .f64 p.f1] 71)) := below_alloc (Below.refl _ _) _
 have hmay : ∀ W, Calls Tryz.prog 78 #[.agg #[.float .f64 p.f0, .float .f64 p.f1]] W fun e w' => e = .returned (.bool (gp p)) ∧ Below W.heap.size W w' := fun W => by
  have := admit_May.calls _ _ _ W (FltP.may_some hp.1 hp.2)
  exact this
 have HB := Aside0.mk hB1
 clear hB1 hp
 generalize gp p = g at *
 go_enter Tryz.func77, Tryz.ntmps77
 go_wp2_with (go_at_call 78; (with_reducible refine (hmay _).mono ?_); rintro u_ w2 ⟨rfl, hb2⟩)
 go_ret
 exact ⟨rfl, HB.out.trans (hb2.mono HB.out.size)⟩
set_option maxHeartbeats 1000000 in
theorem cmay_call (hC : Kd.C k71 w A lp.length lp) (hz : lp.length ≤ 1099511627776) (hp : ∀ x ∈ lp, wdS x) : Calls Tryz.prog 42 #[ptr mb, .slice A lp.length c] w fun e w' => e = .returned (.int .i64 (if lp.any (fun x => !gp x) then 10 else 0)) ∧ Below w.heap.size w w' := by
 have hh := hasPM_call (c := c) hC hz (fun x => !gp x) (fun x hx W hb => mayc_call (hp x hx) W)
 clear hC hp
 cases hg : lp.any (fun x => !gp x) <;> rw [hg] at hh
 all_goals
  clear hg
  go_enter Tryz.func42, Tryz.ntmps42
  go_wp2_with (go_at_call 44; (with_reducible refine hh.mono ?_); rintro u_ w2 ⟨rfl, hb2⟩)
  go_ret
  exact ⟨rfl, hb2⟩
set_option maxHeartbeats 1000000 in
theorem holes_call (h : MeshAt w mb l O F M) (hC : Kd.C k71 w A lp.length lp) (hz : lp.length ≤ 1099511627776) (hw : ∀ x ∈ lp, wdS x) (hp : ∀ x ∈ lp, gp x = true) : Calls Tryz.prog 12 #[ptr mb, .slice A lp.length c] w fun e w' => ∃ L, IsParts (Fixd F) O L ∧ e = .returned (.tuple #[.int .i64 (((L.filter fun p => p.any fun t => lp.any (liesB l t)).flatten.length : Nat) : Int), .int .i64 0]) ∧ MeshAt w' mb l (O.filter fun t => decide (t ∉ (L.filter fun p => p.any fun t => lp.any (liesB l t)).flatten)) F M ∧ Fr M w w' := by
 obtain ⟨W1, hW1⟩ : ∃ W1, W1 = (w.alloc (.cells #[ptr mb] 29)).alloc (.cells #[.slice A lp.length c] 22) := ⟨_, rfl⟩
 have hB1 : Below w.heap.size w W1 := by rw [hW1]; exact below_alloc (below_alloc (Below.refl _ _) _) _
 have hb0 : W1.heap[w.heap.size]? = some (.cells #[ptr mb] 29 (0, 0)) := by rw [hW1]; exact blk_alloc (blk_new _ _) _
 have hb1 : W1.heap[w.heap.size + 1]? = some (.cells #[.slice A lp.length c] 22 (0, 0)) := by rw [hW1]; exact blk_new2 _ _ _
 have hmf : ∀ (fn : Fn) (first cap : Array Value) (w : World), (Instr.makeFunc fn first cap).run Tryz.prog w = .ok (.func fn first cap) w := fun _ _ _ _ => rfl
 have hmy := cmay_call (mb := mb) (c := c) (Kd.C_below hC hB1) hz hw
 have e0 : (lp.any fun x => !gp x) = false := List.any_eq_false.mpr fun x hx => by rw [hp x hx]; decide
 rw [e0] at hmy
 have htk := fun W (hb : Below W1.heap.size W1 W) => takeH_call (w.heap.size + 1) w.heap.size ((h.below hB1).below hb) (fun t => lp.any (liesB l t)) (fun t ht W' hb' => by
  have hb2 := hb.trans (hb'.mono hb.size)
  exact holesc_call (t := t) ((h.below hB1).below hb2) (bcell hb2 (blk_cell hb1 0)) (bcell hb2 (blk_cell hb0 0)) (Kd.C_below (Kd.C_below hC hB1) hb2) hz hp)
 have k0 := fun W (hb : Below W1.heap.size W1 W) => bcell hb ((blk_cell hb0 0).trans (show _ = some (ptr mb) from rfl))
 have k1 := k0 W1 (Below.refl _ _)
 have k2 := (blk_cell hb1 0).trans (show _ = some (Value.slice A lp.length c) from rfl)
 have HB := Aside0.mk hB1
 clear h hC hz hw hp hB1 hb0 hb1 e0
 go_enter Tryz.func12, Tryz.ntmps12
 go_upto_region 1 with (fail)
 rw [← hW1]
 clear hW1
 go_wp2_with (first
  | (go_at_call 42; (with_reducible refine hmy.mono ?_); rintro u_ w2 ⟨rfl, hb2⟩; have k5 := k0 _ hb2)
  | (go_at_call 38; (with_reducible refine (htk _ hb2).mono ?_); rintro u_ w3 ⟨L, hL, he, hM2, hF2⟩; generalize hn : (L.filter fun p => p.any fun t => lp.any (liesB l t)).flatten.length = n at he; subst he))
 go_ret2
 refine ⟨L, hL, ?_, hM2, ?_⟩
 ·rw [hn]; rfl
 ·exact (Fr.of_below (M := M) (HB.out.trans (hb2.mono HB.out.size))).trans hF2 fun _ _ q => q
end
section
variable {w W : World} {mb B C : Nat} {l lp : List S} {O F : List Tr} {M : Nat → Prop} {A : Option Addr} {c : Nat} {t : Tr}
theorem pt_blk {W : World} {g : Nat} {p : S} (h : W.heap[g]? = some (.cells #[.float .f64 p.f0, .float .f64 p.f1] 71 (0, 0))) : W.cell? ⟨g, 0, none⟩ = some (.float .f64 p.f0) ∧ W.cell? ⟨g, 1, none⟩ = some (.float .f64 p.f1) := ⟨blk_cell h 0, blk_cell h 1⟩
set_option maxHeartbeats 1000000 in
theorem spreadcc_call (h : MeshAt W mb l O F M) (hk : W.cell? ⟨B, 0, none⟩ = some (ptr mb)) {p : S} (hb : W.heap[C]? = some (.cells #[.float .f64 p.f0, .float .f64 p.f1] 71 (0, 0))) (hp : gp p = true) : Calls Tryz.prog 58 #[encT t, .pointer (some ⟨B, 0, none⟩), .pointer (some ⟨C, 0, none⟩)] W fun e w' => e = .returned (.bool (liesB l t p)) ∧ Below W.heap.size W w' := by
 have hB1 : Below W.heap.size W (W.alloc (.cells #[.int .i64 t.1, .int .i64 t.2.1, .int .i64 t.2.2] 53)) := below_alloc (Below.refl _ _) _
 have hl := lies_call (h.below hB1) t.1 t.2.1 t.2.2 hp
 have k1 := bcell hB1 hk
 have k2 := bcell hB1 (pt_blk hb).1
 have k3 := bcell hB1 (pt_blk hb).2
 rw [show ((t.1, t.2.1, t.2.2) : Tr) = t from rfl] at hl
 have HB := Aside0.mk hB1
 unfold encT
 clear h hk hb hB1
 go_enter Tryz.func58, Tryz.ntmps58
 go_wp2_with (go_at_call 46; (with_reducible refine hl.mono ?_); rintro u_ w2 ⟨rfl, hb2⟩)
 go_ret
 exact ⟨rfl, HB.out.trans (hb2.mono HB.out.size)⟩
set_option maxHeartbeats 1000000 in
theorem spreadc_call {v : Value} {part : List Tr} {base : Nat} (h : MeshAt W mb l O F M) (hr : W.cell? ⟨B, 0, none⟩ = some v) (hR : kTr.R 53 W base anyB v part) (hk : W.cell? ⟨C, 0, none⟩ = some (ptr mb)) (hz : part.length ≤ 1099511627776) {p : S} (hp : gp p = true) :
 Calls Tryz.prog 56 #[ptV p, .pointer (some ⟨B, 0, none⟩), .pointer (some ⟨C, 0, none⟩)] W fun e w' => e = .returned (.bool (part.any fun t => liesB l t p)) ∧ Below W.heap.size W w' := by
 obtain ⟨A2, c2, hv⟩ := (tr_row.mp hR).any
 subst hv
 obtain ⟨W1, hW1⟩ : ∃ W1, W1 = W.alloc (.cells #[.float .f64 p.f0, .float .f64 p.f1] 71) := ⟨_, rfl⟩
 have hB1 : Below W.heap.size W W1 := by rw [hW1]; exact below_alloc (Below.refl _ _) _
 have hbx : W1.heap[W.heap.size]? = some (.cells #[.float .f64 p.f0, .float .f64 p.f1] 71 (0, 0)) := by rw [hW1]; exact blk_new _ _
 have hmf : ∀ (fn : Fn) (first cap : Array Value) (w : World), (Instr.makeFunc fn first cap).run Tryz.prog w = .ok (.func fn first cap) w := fun _ _ _ _ => rfl
 have hh := hasTS_call C W.heap.size (tr_row.mp (Kd.R_below hR hB1)) hz (fun t => liesB l t p) (fun t ht W' hb => spreadcc_call ((h.below hB1).below hb) (bcell hb (bcell hB1 hk)) (blk_then hb hbx) hp)
 have k1 := bcell hB1 hr
 have k2 := bcell hB1 hk
 rw [hW1] at hh k1 k2 hB1
 have HB := Aside0.mk hB1
 clear h hr hk hR hp hbx hW1 hB1
 go_enter Tryz.func56, Tryz.ntmps56
 go_wp2_with (go_at_call 57; (with_reducible refine hh.mono ?_); rintro u_ w2 ⟨rfl, hb2⟩)
 go_ret
 exact ⟨rfl, HB.out.trans (hb2.mono HB.out.size)⟩
end
end Go.Proofs.YtaoichlepfiliaaGreatDoor.Msh
end
