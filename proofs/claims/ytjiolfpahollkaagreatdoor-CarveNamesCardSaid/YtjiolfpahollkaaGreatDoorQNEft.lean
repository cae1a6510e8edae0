/- What the proof needs of Eft: only what is used is left (wip/tools/prune.py). Conditions stand in each sentence. -/
import Derived.LoopTactic
import Derived.RegionTactic
import Derived.Lib.Hide
import Derived.Test.YtjiolfpahollkaaGreatDoorProg
import Derived.Below
import Derived.Deep.Draws
import Derived.Deep.AppendLies
import Derived.Maps.AppendAt
import Derived.OwnWalk
import Derived.Laws.BytesArg
import Derived.Laws.MakeOwn
import Derived.Laws.OwnMore
import Derived.Deep.OwnRows
import Derived.Tactics
import Derived.Lib.ConvBytes
import Derived.Laws.Slices
import Derived.WalkKit
import Derived.KernelRfl
import Derived.RowKit3
import Derived.Deep.LoopGhost
import Derived.Deep.QuietTactic
import Derived.BigQuiet
import Derived.WideLaws
import Derived.Deep.DeepCutAuto
import Derived.Deep.CutBlock
import Derived.Deep.RegionHeld3
import Derived.Laws.Rows
import Derived.Lib.AppendStr
import Derived.ArgAppend
import Derived.Laws.IdiomCopy
import Derived.OrdersHeld
import Derived.Laws.BitsLemmas
import Derived.RowKit
import Derived.Laws.FloatArith
import Derived.Laws.StructEq
import Derived.Test.YtjiolfpahollkaaGreatDoorQNWWords
import Derived.Test.YtjiolfpahollkaaGreatDoorQNWLast
import Derived.Test.YtjiolfpahollkaaGreatDoorQNWFootNe
import Derived.Test.YtjiolfpahollkaaGreatDoorQNEF1
set_option linter.unusedVariables false
set_option linter.unusedSimpArgs false
namespace Go.Proofs.YtjiolfpahollkaaGreatDoor.EF
end Go.Proofs.YtjiolfpahollkaaGreatDoor.EF
namespace Go.Proofs.YtjiolfpahollkaaGreatDoorW.PrintLast
end Go.Proofs.YtjiolfpahollkaaGreatDoorW.PrintLast
namespace Go.Proofs.YtjiolfpahollkaaGreatDoorW.PrintMore
end Go.Proofs.YtjiolfpahollkaaGreatDoorW.PrintMore
namespace Go.Proofs.YtjiolfpahollkaaGreatDoorW.PrintWords
end Go.Proofs.YtjiolfpahollkaaGreatDoorW.PrintWords
namespace Go.Proofs.YtjiolfpahollkaaGreatDoor.Eft
open Go.RowKit Go.Proofs.YtjiolfpahollkaaGreatDoor.EF Go.Proofs.YtjiolfpahollkaaGreatDoorW.PrintWords Go.Proofs.YtjiolfpahollkaaGreatDoorW.PrintLast Go.Proofs.YtjiolfpahollkaaGreatDoorW.PrintMore
theorem both_made (n : Nat) (w : World) :
    Calls Tryz.prog 272 #[.func (.func n) #[] #[]] w fun e w' => e = .returned (.func (.func 288) #[] #[.pointer (some ⟨w.heap.size, 0, none⟩)]) ∧ w' = w.alloc (.cells #[.func (.func n) #[] #[]] 163) := by
  have hmf : ∀ (fn : Fn) (first cap : Array Value) (w : World), (Instr.makeFunc fn first cap).run Tryz.prog w = .ok (.func fn first cap) w := fun _ _ _ _ => rfl
  go_enter Tryz.func272, Tryz.ntmps272
  go_wp2
  go_ret
  exact ⟨rfl, rfl⟩
theorem both_Tame (b x y : Nat) (r s : Bool) (hx : eft_Tame.f x = some r) (hy : eft_Tame.f y = some s) (w : World) (hb : w.heap[b]? = some (.cells #[.func (.func 273) #[] #[]] 163 (0, 0))) :
    Calls Tryz.prog 288 #[.float .f64 x, .float .f64 y, .pointer (some ⟨b, 0, none⟩)] w fun e w' => e = .returned (.bool (r && s)) ∧ Drawn0 w w' := by
  have hc : w.cell? ⟨b, 0, none⟩ = some (.func (.func 273) #[] #[]) := (blk_cell hb 0).trans rfl
  have hf := blk_frozen hb 0
  cases r
  · go_enter Tryz.func288, Tryz.ntmps288
    go_wp2_with (go_at_call 273; refine (eft_Tame.calls x _ _ hx).mono ?_; rintro e w' ⟨rfl, ⟨nd, rfl⟩⟩)
    go_ret
    exact ⟨rfl, by repeat (first | exact Drawn0.refl _ | apply Drawn0.step)⟩
  · go_enter Tryz.func288, Tryz.ntmps288
    go_wp2_with (go_at_call 273; (first | (with_reducible refine (eft_Tame.calls x _ _ hx).mono ?_) | (with_reducible refine (eft_Tame.calls y _ _ hy).mono ?_)); rintro e w' ⟨rfl, ⟨nd, rfl⟩⟩)
    go_ret
    exact ⟨rfl, by repeat (first | exact Drawn0.refl _ | apply Drawn0.step)⟩
theorem both_Safe (b x y : Nat) (r s : Bool) (hx : eft_Safe.f x = some r) (hy : eft_Safe.f y = some s) (w : World) (hb : w.heap[b]? = some (.cells #[.func (.func 290) #[] #[]] 163 (0, 0))) :
    Calls Tryz.prog 288 #[.float .f64 x, .float .f64 y, .pointer (some ⟨b, 0, none⟩)] w fun e w' => e = .returned (.bool (r && s)) ∧ Drawn0 w w' := by
  have hc : w.cell? ⟨b, 0, none⟩ = some (.func (.func 290) #[] #[]) := (blk_cell hb 0).trans rfl
  have hf := blk_frozen hb 0
  cases r
  · go_enter Tryz.func288, Tryz.ntmps288
    go_wp2_with (go_at_call 290; refine (eft_Safe.calls x _ _ hx).mono ?_; rintro e w' ⟨rfl, ⟨nd, rfl⟩⟩)
    go_ret
    exact ⟨rfl, by repeat (first | exact Drawn0.refl _ | apply Drawn0.step)⟩
  · go_enter Tryz.func288, Tryz.ntmps288
    go_wp2_with (go_at_call 290; (first | (with_reducible refine (eft_Safe.calls x _ _ hx).mono ?_) | (with_reducible refine (eft_Safe.calls y _ _ hy).mono ?_)); rintro e w' ⟨rfl, ⟨nd, rfl⟩⟩)
    go_ret
    exact ⟨rfl, by repeat (first | exact Drawn0.refl _ | apply Drawn0.step)⟩
def eft_Sum.f (a b : Nat) : Option (Nat × Nat) := (eft_Tame.f a).bind fun r => (eft_Tame.f b).bind fun s => if (r && s) = true then
  ((floatBits .add .f64 a b).bind fun x => (floatBits .sub .f64 x a).bind fun c => (floatBits .sub .f64 x c).bind fun d => (floatBits .sub .f64 a d).bind fun p => (floatBits .sub .f64 b c).bind fun q => (floatBits .add .f64 p q).bind fun y => some (x, y)) else some (0, 0)
theorem below_box (w : World) (b : Obj) : Below w.heap.size w (w.alloc b) := (Below.refl _ _).alloc (Nat.le_refl _) _
set_option maxRecDepth 100000 in
theorem eft_Sum.calls (a b x y : Nat) (w : World) (h : eft_Sum.f a b = some (x, y)) :
    Calls Tryz.prog 238 #[.float .f64 a, .float .f64 b] w fun e w' => e = .returned (.tuple #[.float .f64 x, .float .f64 y]) ∧ Below w.heap.size w w' := by
  obtain ⟨r, hr, h⟩ := Option.bind_eq_some_iff.mp h
  obtain ⟨s, hs, h⟩ := Option.bind_eq_some_iff.mp h
  have hb0 := heap_alloc_new w (.cells #[.func (.func 273) #[] #[]] 163)
  by_cases c : (r && s) = true
  · rw [if_pos c] at h
    obtain ⟨x1, h1, h⟩ := Option.bind_eq_some_iff.mp h
    obtain ⟨c1, h2, h⟩ := Option.bind_eq_some_iff.mp h
    obtain ⟨d1, h3, h⟩ := Option.bind_eq_some_iff.mp h
    obtain ⟨p1, h4, h⟩ := Option.bind_eq_some_iff.mp h
    obtain ⟨q1, h5, h⟩ := Option.bind_eq_some_iff.mp h
    obtain ⟨y1, h6, h⟩ := Option.bind_eq_some_iff.mp h
    simp only [Option.some.injEq, Prod.mk.injEq] at h
    obtain ⟨rfl, rfl⟩ := h
    have g1 := fun w_ => run_float_arith (P := Tryz.prog) w_ .add 66 .f64 a b x1 h1
    have g2 := fun w_ => run_float_arith (P := Tryz.prog) w_ .sub 66 .f64 x1 a c1 h2
    have g3 := fun w_ => run_float_arith (P := Tryz.prog) w_ .sub 66 .f64 x1 c1 d1 h3
    have g4 := fun w_ => run_float_arith (P := Tryz.prog) w_ .sub 66 .f64 a d1 p1 h4
    have g5 := fun w_ => run_float_arith (P := Tryz.prog) w_ .sub 66 .f64 b c1 q1 h5
    have g6 := fun w_ => run_float_arith (P := Tryz.prog) w_ .add 66 .f64 p1 q1 y1 h6
    clear h1 h2 h3 h4 h5 h6
    go_enter Tryz.func238, Tryz.ntmps238
    go_wp2_with (first | (go_at_call 272; refine (both_made 273 _).mono ?_; rintro e w' ⟨rfl, rfl⟩) | (go_at_call 288; refine (both_Tame _ a b r s hr hs _ hb0).mono ?_; rw [c]; rintro e w' ⟨rfl, ⟨nd, rfl⟩⟩))
    go_ret2
    exact ⟨rfl, (below_box w _).trans (((Drawn0.refl _).step nd).below.mono (by simp))⟩
  · rw [if_neg c] at h
    simp only [Option.some.injEq, Prod.mk.injEq] at h
    obtain ⟨rfl, rfl⟩ := h
    replace c := Bool.eq_false_iff.mpr c
    go_enter Tryz.func238, Tryz.ntmps238
    go_wp2_with (first | (go_at_call 272; refine (both_made 273 _).mono ?_; rintro e w' ⟨rfl, rfl⟩) | (go_at_call 288; refine (both_Tame _ a b r s hr hs _ hb0).mono ?_; rw [c]; rintro e w' ⟨rfl, ⟨nd, rfl⟩⟩))
    go_ret2
    exact ⟨rfl, (below_box w _).trans (((Drawn0.refl _).step nd).below.mono (by simp))⟩
def eft_Prod.f (a b : Nat) : Option (Nat × Nat) := (eft_Safe.f a).bind fun r => (eft_Safe.f b).bind fun s => if (r && s) = true then
  ((floatBits .mul .f64 a b).bind fun x1 => (eft_Split.f a).bind fun pq => (eft_Split.f b).bind fun rs => (floatBits .mul .f64 pq.1 rs.1).bind fun m1 => (floatBits .sub .f64 x1 m1).bind fun e1 => (floatBits .mul .f64 pq.2 rs.1).bind fun m2 => (floatBits .sub .f64 e1 m2).bind fun e2 => (floatBits .mul .f64 pq.1 rs.2).bind fun m3 => (floatBits .sub .f64 e2 m3).bind fun e3 => (floatBits .mul .f64 pq.2 rs.2).bind fun m4 => (floatBits .sub .f64 m4 e3).bind fun y1 => some (x1, y1)) else some (0, 0)
set_option maxRecDepth 100000 in
set_option maxHeartbeats 1000000 in
theorem eft_Prod.calls (a b x y : Nat) (w : World) (h : eft_Prod.f a b = some (x, y)) :
    Calls Tryz.prog 276 #[.float .f64 a, .float .f64 b] w fun e w' => e = .returned (.tuple #[.float .f64 x, .float .f64 y]) ∧ Below w.heap.size w w' := by
  obtain ⟨u, hr, h⟩ := Option.bind_eq_some_iff.mp h
  obtain ⟨v, hs, h⟩ := Option.bind_eq_some_iff.mp h
  have hb0 := heap_alloc_new w (.cells #[.func (.func 290) #[] #[]] 163)
  by_cases c : (u && v) = true
  · rw [if_pos c] at h
    obtain ⟨x1, hx1, h⟩ := Option.bind_eq_some_iff.mp h
    obtain ⟨⟨p, q⟩, hpq, h⟩ := Option.bind_eq_some_iff.mp h
    obtain ⟨⟨r, s⟩, hrs, h⟩ := Option.bind_eq_some_iff.mp h
    obtain ⟨m1, hm1, h⟩ := Option.bind_eq_some_iff.mp h
    obtain ⟨e1, he1, h⟩ := Option.bind_eq_some_iff.mp h
    obtain ⟨m2, hm2, h⟩ := Option.bind_eq_some_iff.mp h
    obtain ⟨e2, he2, h⟩ := Option.bind_eq_some_iff.mp h
    obtain ⟨m3, hm3, h⟩ := Option.bind_eq_some_iff.mp h
    obtain ⟨e3, he3, h⟩ := Option.bind_eq_some_iff.mp h
    obtain ⟨m4, hm4, h⟩ := Option.bind_eq_some_iff.mp h
    obtain ⟨y1, hy1, h⟩ := Option.bind_eq_some_iff.mp h
    simp only [Option.some.injEq, Prod.mk.injEq] at h
    obtain ⟨rfl, rfl⟩ := h
    have gx1 := fun w_ => run_float_arith (P := Tryz.prog) w_ .mul 66 .f64 a b x1 hx1
    have gm1 := fun w_ => run_float_arith (P := Tryz.prog) w_ .mul 66 .f64 p r m1 hm1
    have ge1 := fun w_ => run_float_arith (P := Tryz.prog) w_ .sub 66 .f64 x1 m1 e1 he1
    have gm2 := fun w_ => run_float_arith (P := Tryz.prog) w_ .mul 66 .f64 q r m2 hm2
    have ge2 := fun w_ => run_float_arith (P := Tryz.prog) w_ .sub 66 .f64 e1 m2 e2 he2
    have gm3 := fun w_ => run_float_arith (P := Tryz.prog) w_ .mul 66 .f64 p s m3 hm3
    have ge3 := fun w_ => run_float_arith (P := Tryz.prog) w_ .sub 66 .f64 e2 m3 e3 he3
    have gm4 := fun w_ => run_float_arith (P := Tryz.prog) w_ .mul 66 .f64 q s m4 hm4
    have gy1 := fun w_ => run_float_arith (P := Tryz.prog) w_ .sub 66 .f64 m4 e3 y1 hy1
    clear hx1 hm1 he1 hm2 he2 hm3 he3 hm4 hy1
    go_enter Tryz.func276, Tryz.ntmps276
    go_wp2_with (first | (go_at_call 272; refine (both_made 290 _).mono ?_; rintro e w' ⟨rfl, rfl⟩) | (go_at_call 288; refine (both_Safe _ a b u v hr hs _ hb0).mono ?_; rw [c]; rintro e w' ⟨rfl, ⟨nd, rfl⟩⟩) | (go_at_call 291; (first | (with_reducible refine (eft_Split.calls a _ _ _ hpq).mono ?_) | (with_reducible refine (eft_Split.calls b _ _ _ hrs).mono ?_)); rintro e w' ⟨rfl, ⟨nd, rfl⟩⟩))
    go_ret2
    exact ⟨rfl, (below_box w _).trans ((by repeat (first | exact Drawn0.refl _ | apply Drawn0.step) : Drawn0 _ _).below.mono (by simp))⟩
  · rw [if_neg c] at h
    simp only [Option.some.injEq, Prod.mk.injEq] at h
    obtain ⟨rfl, rfl⟩ := h
    replace c := Bool.eq_false_iff.mpr c
    go_enter Tryz.func276, Tryz.ntmps276
    go_wp2_with (first | (go_at_call 272; refine (both_made 290 _).mono ?_; rintro e w' ⟨rfl, rfl⟩) | (go_at_call 288; refine (both_Safe _ a b u v hr hs _ hb0).mono ?_; rw [c]; rintro e w' ⟨rfl, ⟨nd, rfl⟩⟩))
    go_ret2
    exact ⟨rfl, (below_box w _).trans (((Drawn0.refl _).step nd).below.mono (by simp))⟩
end Go.Proofs.YtjiolfpahollkaaGreatDoor.Eft
