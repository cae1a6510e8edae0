/- What the proof needs of Mdv: only what is used is left (wip/tools/prune.py). Conditions stand in each sentence. -/
import Derived.Test.YtjiolfpahollkaaGreatDoorQNMdr
section
set_option linter.unusedVariables false
set_option linter.unusedSimpArgs false
namespace Go.Proofs.YtjiolfpahollkaaGreatDoor.Adm
end Go.Proofs.YtjiolfpahollkaaGreatDoor.Adm
namespace Go.Proofs.YtjiolfpahollkaaGreatDoor.E
end Go.Proofs.YtjiolfpahollkaaGreatDoor.E
namespace Go.Proofs.YtjiolfpahollkaaGreatDoor.Kfl
end Go.Proofs.YtjiolfpahollkaaGreatDoor.Kfl
namespace Go.Proofs.YtjiolfpahollkaaGreatDoor.Mp
end Go.Proofs.YtjiolfpahollkaaGreatDoor.Mp
namespace Go.Proofs.YtjiolfpahollkaaGreatDoor.R
end Go.Proofs.YtjiolfpahollkaaGreatDoor.R
namespace Go.Proofs.YtjiolfpahollkaaGreatDoorW.PrintLast
end Go.Proofs.YtjiolfpahollkaaGreatDoorW.PrintLast
namespace Go.Proofs.YtjiolfpahollkaaGreatDoorW.PrintMore
end Go.Proofs.YtjiolfpahollkaaGreatDoorW.PrintMore
namespace Go.Proofs.YtjiolfpahollkaaGreatDoorW.PrintWords
end Go.Proofs.YtjiolfpahollkaaGreatDoorW.PrintWords
namespace Go.Proofs.YtjiolfpahollkaaGreatDoor.Msh
open Go.RowKit Go.Sort Go.ChangeMaps Go.MapKept Go.Proofs.YtjiolfpahollkaaGreatDoor.Mp Go.Proofs.YtjiolfpahollkaaGreatDoor.Adm Go.Proofs.YtjiolfpahollkaaGreatDoor.Kfl Go.Proofs.YtjiolfpahollkaaGreatDoor.R Go.Proofs.YtjiolfpahollkaaGreatDoor.E Go.Proofs.YtjiolfpahollkaaGreatDoorW.PrintWords Go.Proofs.YtjiolfpahollkaaGreatDoorW.PrintLast Go.Proofs.YtjiolfpahollkaaGreatDoorW.PrintMore
section
variable {w W : World} {mb B C : Nat} {l lp : List S} {O F : List Tr} {M : Nat → Prop} {A : Option Addr} {c : Nat} {t : Tr}
set_option maxHeartbeats 1000000 in
theorem holescc_call (h : MeshAt W mb l O F M) (hk : W.cell? ⟨B, 0, none⟩ = some (ptr mb)) (hb : W.heap[C]? = some (.cells (cT t).toArray 53 (0, 0))) {p : S} (hp : gp p = true) : Calls Tryz.prog 71 #[ptV p, .pointer (some ⟨B, 0, none⟩), .pointer (some ⟨C, 0, none⟩)] W fun e w' => e = .returned (.bool (liesB l t p)) ∧ Below W.heap.size W w' := by
  have hB1 : Below W.heap.size W (W.alloc (.cells #[.float .f64 p.f0, .float .f64 p.f1] 68)) := below_alloc (Below.refl _ _) _
  have hl := lies_call (h.below hB1) t.1 t.2.1 t.2.2 hp
  have k1 := bcell hB1 hk
  have k2 := bcell hB1 ((blk_cell hb 0).trans (show _ = some (Value.int .i64 t.1) from rfl))
  have k3 := bcell hB1 ((blk_cell hb 1).trans (show _ = some (Value.int .i64 t.2.1) from rfl))
  have k4 := bcell hB1 ((blk_cell hb 2).trans (show _ = some (Value.int .i64 t.2.2) from rfl))
  rw [show ((t.1, t.2.1, t.2.2) : Tr) = t from rfl] at hl
  have HB := Aside0.mk hB1
  clear h hk hb hB1
  go_enter Tryz.func71, Tryz.ntmps71
  go_wp2_with (go_at_call 72; (with_reducible refine hl.mono ?_); rintro u_ w2 ⟨rfl, hb2⟩)
  go_ret
  exact ⟨rfl, HB.out.trans (hb2.mono HB.out.size)⟩
set_option maxHeartbeats 1000000 in
theorem holesc_call (h : MeshAt W mb l O F M) (hr : W.cell? ⟨B, 0, none⟩ = some (.slice A lp.length c)) (hk : W.cell? ⟨C, 0, none⟩ = some (ptr mb)) (hC : Kd.C k68 W A lp.length lp) (hz : lp.length ≤ 1099511627776) (hp : ∀ x ∈ lp, gp x = true) :
    Calls Tryz.prog 69 #[encT t, .pointer (some ⟨B, 0, none⟩), .pointer (some ⟨C, 0, none⟩)] W fun e w' => e = .returned (.bool (lp.any (liesB l t))) ∧ Below W.heap.size W w' := by
  obtain ⟨W1, hW1⟩ : ∃ W1, W1 = W.alloc (.cells #[.int .i64 t.1, .int .i64 t.2.1, .int .i64 t.2.2] 53) := ⟨_, rfl⟩
  have hB1 : Below W.heap.size W W1 := by rw [hW1]; exact below_alloc (Below.refl _ _) _
  have hbx : W1.heap[W.heap.size]? = some (.cells (cT t).toArray 53 (0, 0)) := by rw [hW1]; exact blk_new _ _
  have hmf : ∀ (fn : Fn) (first cap : Array Value) (w : World), (Instr.makeFunc fn first cap).run Tryz.prog w = .ok (.func fn first cap) w := fun _ _ _ _ => rfl
  have hh := hasPH_call C W.heap.size (c := c) (Kd.C_below hC hB1) hz (liesB l t) (fun x hx W' hb => holescc_call ((h.below hB1).below hb) (bcell hb (bcell hB1 hk)) (blk_then hb hbx) (hp x hx))
  have k1 := bcell hB1 hr
  have k2 := bcell hB1 hk
  rw [hW1] at hh k1 k2 hB1
  have HB := Aside0.mk hB1
  unfold encT
  clear h hr hk hC hp hbx hW1 hB1
  go_enter Tryz.func69, Tryz.ntmps69
  go_wp2_with (go_at_call 70; (with_reducible refine hh.mono ?_); rintro u_ w2 ⟨rfl, hb2⟩)
  go_ret
  exact ⟨rfl, HB.out.trans (hb2.mono HB.out.size)⟩
def wdS (x : S) : Prop := x.f0 < 2 ^ 64 ∧ x.f1 < 2 ^ 64
set_option maxHeartbeats 1000000 in
theorem mayc_call {p : S} (hp : wdS p) (W : World) : Calls Tryz.prog 123 #[ptV p] W fun e w' => e = .returned (.bool (!gp p)) ∧ Below W.heap.size W w' := by
  have hB1 : Below W.heap.size W (W.alloc (.cells #[.float .f64 p.f0, .float .f64 p.f1] 68)) := below_alloc (Below.refl _ _) _
  have hmay : ∀ W, Calls Tryz.prog 124 #[.agg #[.float .f64 p.f0, .float .f64 p.f1]] W fun e w' => e = .returned (.bool (gp p)) ∧ Below W.heap.size W w' := fun W => by
    have := admit_May.calls _ _ _ W (FltP.may_some hp.1 hp.2)
    exact this
  have HB := Aside0.mk hB1
  clear hB1 hp
  generalize gp p = g at *
  go_enter Tryz.func123, Tryz.ntmps123
  go_wp2_with (go_at_call 124; (with_reducible refine (hmay _).mono ?_); rintro u_ w2 ⟨rfl, hb2⟩)
  go_ret
  exact ⟨rfl, HB.out.trans (hb2.mono HB.out.size)⟩
set_option maxHeartbeats 1000000 in
theorem cmay_call (hC : Kd.C k68 w A lp.length lp) (hz : lp.length ≤ 1099511627776) (hp : ∀ x ∈ lp, wdS x) : Calls Tryz.prog 68 #[ptr mb, .slice A lp.length c] w fun e w' => e = .returned (.int .i64 (if lp.any (fun x => !gp x) then 10 else 0)) ∧ Below w.heap.size w w' := by
  have hh := hasPM_call (c := c) hC hz (fun x => !gp x) (fun x hx W hb => mayc_call (hp x hx) W)
  clear hC hp
  cases hg : lp.any (fun x => !gp x) <;> rw [hg] at hh
  all_goals
    clear hg
    go_enter Tryz.func68, Tryz.ntmps68
    go_wp2_with (go_at_call 70; (with_reducible refine hh.mono ?_); rintro u_ w2 ⟨rfl, hb2⟩)
    go_ret
    exact ⟨rfl, hb2⟩
set_option maxHeartbeats 1000000 in
theorem holes_call (h : MeshAt w mb l O F M) (hC : Kd.C k68 w A lp.length lp) (hz : lp.length ≤ 1099511627776) (hw : ∀ x ∈ lp, wdS x) (hp : ∀ x ∈ lp, gp x = true) : Calls Tryz.prog 19 #[ptr mb, .slice A lp.length c] w fun e w' => ∃ L, IsParts (Fixd F) O L ∧ e = .returned (.tuple #[.int .i64 (((L.filter fun p => p.any fun t => lp.any (liesB l t)).flatten.length : Nat) : Int), .int .i64 0]) ∧ MeshAt w' mb l (O.filter fun t => decide (t ∉ (L.filter fun p => p.any fun t => lp.any (liesB l t)).flatten)) F M ∧ Fr M w w' := by
  obtain ⟨W1, hW1⟩ : ∃ W1, W1 = (w.alloc (.cells #[ptr mb] 29)).alloc (.cells #[.slice A lp.length c] 22) := ⟨_, rfl⟩
  have hB1 : Below w.heap.size w W1 := by rw [hW1]; exact below_alloc (below_alloc (Below.refl _ _) _) _
  have hb0 : W1.heap[w.heap.size]? = some (.cells #[ptr mb] 29 (0, 0)) := by rw [hW1]; exact blk_alloc (blk_new _ _) _
  have hb1 : W1.heap[w.heap.size + 1]? = some (.cells #[.slice A lp.length c] 22 (0, 0)) := by rw [hW1]; exact blk_new2 _ _ _
  have hmf : ∀ (fn : Fn) (first cap : Array Value) (w : World), (Instr.makeFunc fn first cap).run Tryz.prog w = .ok (.func fn first cap) w := fun _ _ _ _ => rfl
  have hmy := cmay_call (mb := mb) (c := c) (Kd.C_below hC hB1) hz hw
  have e0 : (lp.any fun x => !gp x) = false := List.any_eq_false.mpr fun x hx => by rw [hp x hx]; decide
  rw [e0] at hmy
  have htk := fun W (hb : Below W1.heap.size W1 W) => takeH_call (w.heap.size + 1) w.heap.size ((h.below hB1).below hb) (fun t => lp.any (liesB l t)) (fun t ht W' hb' => by
    have hb2 := hb.trans (hb'.mono hb.size)
    exact holesc_call (t := t) ((h.below hB1).below hb2) (bcell hb2 (blk_cell hb1 0)) (bcell hb2 (blk_cell hb0 0)) (Kd.C_below (Kd.C_below hC hB1) hb2) hz hp)
  have k0 := fun W (hb : Below W1.heap.size W1 W) => bcell hb ((blk_cell hb0 0).trans (show _ = some (ptr mb) from rfl))
  have k1 := k0 W1 (Below.refl _ _)
  have k2 := (blk_cell hb1 0).trans (show _ = some (Value.slice A lp.length c) from rfl)
  have HB := Aside0.mk hB1
  clear h hC hz hw hp hB1 hb0 hb1 e0
  go_enter Tryz.func19, Tryz.ntmps19
  go_upto_region 1 with (fail)
  rw [← hW1]
  clear hW1
  go_wp2_with (first
    | (go_at_call 68; (with_reducible refine hmy.mono ?_); rintro u_ w2 ⟨rfl, hb2⟩; have k5 := k0 _ hb2)
    | (go_at_call 64; (with_reducible refine (htk _ hb2).mono ?_); rintro u_ w3 ⟨L, hL, he, hM2, hF2⟩; generalize hn : (L.filter fun p => p.any fun t => lp.any (liesB l t)).flatten.length = n at he; subst he))
  go_ret2
  refine ⟨L, hL, ?_, hM2, ?_⟩
  · rw [hn]; rfl
  · exact (Fr.of_below (M := M) (HB.out.trans (hb2.mono HB.out.size))).trans hF2 fun _ _ q => q
end
end Go.Proofs.YtjiolfpahollkaaGreatDoor.Msh
end
section
set_option linter.unusedVariables false
set_option linter.unusedSimpArgs false
namespace Go.Proofs.YtjiolfpahollkaaGreatDoor.Adm
end Go.Proofs.YtjiolfpahollkaaGreatDoor.Adm
namespace Go.Proofs.YtjiolfpahollkaaGreatDoor.E
end Go.Proofs.YtjiolfpahollkaaGreatDoor.E
namespace Go.Proofs.YtjiolfpahollkaaGreatDoor.Kfl
end Go.Proofs.YtjiolfpahollkaaGreatDoor.Kfl
namespace Go.Proofs.YtjiolfpahollkaaGreatDoor.Mp
end Go.Proofs.YtjiolfpahollkaaGreatDoor.Mp
namespace Go.Proofs.YtjiolfpahollkaaGreatDoor.R
end Go.Proofs.YtjiolfpahollkaaGreatDoor.R
namespace Go.Proofs.YtjiolfpahollkaaGreatDoorW.PrintLast
end Go.Proofs.YtjiolfpahollkaaGreatDoorW.PrintLast
namespace Go.Proofs.YtjiolfpahollkaaGreatDoorW.PrintMore
end Go.Proofs.YtjiolfpahollkaaGreatDoorW.PrintMore
namespace Go.Proofs.YtjiolfpahollkaaGreatDoorW.PrintWords
end Go.Proofs.YtjiolfpahollkaaGreatDoorW.PrintWords
namespace Go.Proofs.YtjiolfpahollkaaGreatDoor.Msh
open Go.RowKit Go.Sort Go.ChangeMaps Go.MapKept Go.Proofs.YtjiolfpahollkaaGreatDoor.Mp Go.Proofs.YtjiolfpahollkaaGreatDoor.Adm Go.Proofs.YtjiolfpahollkaaGreatDoor.Kfl Go.Proofs.YtjiolfpahollkaaGreatDoor.R Go.Proofs.YtjiolfpahollkaaGreatDoor.E Go.Proofs.YtjiolfpahollkaaGreatDoorW.PrintWords Go.Proofs.YtjiolfpahollkaaGreatDoorW.PrintLast Go.Proofs.YtjiolfpahollkaaGreatDoorW.PrintMore
section
variable {w W : World} {mb B C : Nat} {l lp : List S} {O F : List Tr} {M : Nat → Prop} {A : Option Addr} {c : Nat} {t : Tr}
theorem pt_blk {W : World} {g : Nat} {p : S} (h : W.heap[g]? = some (.cells #[.float .f64 p.f0, .float .f64 p.f1] 68 (0, 0))) : W.cell? ⟨g, 0, none⟩ = some (.float .f64 p.f0) ∧ W.cell? ⟨g, 1, none⟩ = some (.float .f64 p.f1) := ⟨blk_cell h 0, blk_cell h 1⟩
set_option maxHeartbeats 1000000 in
theorem spreadcc_call (h : MeshAt W mb l O F M) (hk : W.cell? ⟨B, 0, none⟩ = some (ptr mb)) {p : S} (hb : W.heap[C]? = some (.cells #[.float .f64 p.f0, .float .f64 p.f1] 68 (0, 0))) (hp : gp p = true) : Calls Tryz.prog 84 #[encT t, .pointer (some ⟨B, 0, none⟩), .pointer (some ⟨C, 0, none⟩)] W fun e w' => e = .returned (.bool (liesB l t p)) ∧ Below W.heap.size W w' := by
  have hB1 : Below W.heap.size W (W.alloc (.cells #[.int .i64 t.1, .int .i64 t.2.1, .int .i64 t.2.2] 53)) := below_alloc (Below.refl _ _) _
  have hl := lies_call (h.below hB1) t.1 t.2.1 t.2.2 hp
  have k1 := bcell hB1 hk
  have k2 := bcell hB1 (pt_blk hb).1
  have k3 := bcell hB1 (pt_blk hb).2
  rw [show ((t.1, t.2.1, t.2.2) : Tr) = t from rfl] at hl
  have HB := Aside0.mk hB1
  unfold encT
  clear h hk hb hB1
  go_enter Tryz.func84, Tryz.ntmps84
  go_wp2_with (go_at_call 72; (with_reducible refine hl.mono ?_); rintro u_ w2 ⟨rfl, hb2⟩)
  go_ret
  exact ⟨rfl, HB.out.trans (hb2.mono HB.out.size)⟩
set_option maxHeartbeats 1000000 in
theorem spreadc_call {v : Value} {part : List Tr} {base : Nat} (h : MeshAt W mb l O F M) (hr : W.cell? ⟨B, 0, none⟩ = some v) (hR : kTr.R 53 W base anyB v part) (hk : W.cell? ⟨C, 0, none⟩ = some (ptr mb)) (hz : part.length ≤ 1099511627776) {p : S} (hp : gp p = true) :
    Calls Tryz.prog 82 #[ptV p, .pointer (some ⟨B, 0, none⟩), .pointer (some ⟨C, 0, none⟩)] W fun e w' => e = .returned (.bool (part.any fun t => liesB l t p)) ∧ Below W.heap.size W w' := by
  obtain ⟨A2, c2, hv⟩ := (tr_row.mp hR).any
  subst hv
  obtain ⟨W1, hW1⟩ : ∃ W1, W1 = W.alloc (.cells #[.float .f64 p.f0, .float .f64 p.f1] 68) := ⟨_, rfl⟩
  have hB1 : Below W.heap.size W W1 := by rw [hW1]; exact below_alloc (Below.refl _ _) _
  have hbx : W1.heap[W.heap.size]? = some (.cells #[.float .f64 p.f0, .float .f64 p.f1] 68 (0, 0)) := by rw [hW1]; exact blk_new _ _
  have hmf : ∀ (fn : Fn) (first cap : Array Value) (w : World), (Instr.makeFunc fn first cap).run Tryz.prog w = .ok (.func fn first cap) w := fun _ _ _ _ => rfl
  have hh := hasTS_call C W.heap.size (tr_row.mp (Kd.R_below hR hB1)) hz (fun t => liesB l t p) (fun t ht W' hb => spreadcc_call ((h.below hB1).below hb) (bcell hb (bcell hB1 hk)) (blk_then hb hbx) hp)
  have k1 := bcell hB1 hr
  have k2 := bcell hB1 hk
  rw [hW1] at hh k1 k2 hB1
  have HB := Aside0.mk hB1
  clear h hr hk hR hp hbx hW1 hB1
  go_enter Tryz.func82, Tryz.ntmps82
  go_wp2_with (go_at_call 83; (with_reducible refine hh.mono ?_); rintro u_ w2 ⟨rfl, hb2⟩)
  go_ret
  exact ⟨rfl, HB.out.trans (hb2.mono HB.out.size)⟩
set_option maxHeartbeats 1000000 in
theorem parts_nil (w : World) : Calls Tryz.prog 27 #[.pointer none] w fun e w' => e = .returned (.tuple #[.slice none 0 0, .int .i64 2]) ∧ w = w' := by
  go_enter Tryz.func27, Tryz.ntmps27
  go_wp2
  go_ret2
  exact ⟨rfl, rfl⟩
set_option maxHeartbeats 1000000 in
theorem cmay_nil (v : Value) (w : World) : Calls Tryz.prog 68 #[.pointer none, v] w fun e w' => e = .returned (.int .i64 2) ∧ w = w' := by
  go_enter Tryz.func68, Tryz.ntmps68
  go_wp2
  go_ret
  exact ⟨rfl, rfl⟩
set_option maxHeartbeats 1000000 in
theorem holes_bad (hC : Kd.C k68 w A lp.length lp) (hz : lp.length ≤ 1099511627776) (hw : ∀ x ∈ lp, wdS x) (hp : (lp.any fun x => !gp x) = true) : Calls Tryz.prog 19 #[ptr mb, .slice A lp.length c] w fun e w' => e = .returned (.tuple #[.int .i64 0, .int .i64 10]) ∧ Below w.heap.size w w' := by
  have hB1 : Below w.heap.size w ((w.alloc (.cells #[ptr mb] 29)).alloc (.cells #[.slice A lp.length c] 22)) := below_alloc (below_alloc (Below.refl _ _) _) _
  have hmy := cmay_call (mb := mb) (c := c) (Kd.C_below hC hB1) hz hw
  rw [hp] at hmy
  have HB := Aside0.mk hB1
  clear hC hz hw hp hB1
  go_enter Tryz.func19, Tryz.ntmps19
  go_wp2_with (go_at_call 68; (with_reducible refine hmy.mono ?_); rintro u_ w2 ⟨rfl, hb2⟩)
  go_ret2
  exact ⟨rfl, HB.out.trans (hb2.mono HB.out.size)⟩
end
end Go.Proofs.YtjiolfpahollkaaGreatDoor.Msh
end
