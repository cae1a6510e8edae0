/- What the proof needs of Mdy: only what is used is left (wip/tools/prune.py). Conditions stand in each sentence. -/
import Derived.Test.YtjiolfpahollkaaGreatDoorQNMdx
import Derived.Test.YtjiolfpahollkaaGreatDoorQNMco
section
set_option linter.unusedVariables false
set_option linter.unusedSimpArgs false
namespace Go.Proofs.YtjiolfpahollkaaGreatDoor.Adm
end Go.Proofs.YtjiolfpahollkaaGreatDoor.Adm
namespace Go.Proofs.YtjiolfpahollkaaGreatDoor.E
end Go.Proofs.YtjiolfpahollkaaGreatDoor.E
namespace Go.Proofs.YtjiolfpahollkaaGreatDoor.Kfl
end Go.Proofs.YtjiolfpahollkaaGreatDoor.Kfl
namespace Go.Proofs.YtjiolfpahollkaaGreatDoor.Mp
end Go.Proofs.YtjiolfpahollkaaGreatDoor.Mp
namespace Go.Proofs.YtjiolfpahollkaaGreatDoor.R
end Go.Proofs.YtjiolfpahollkaaGreatDoor.R
namespace Go.Proofs.YtjiolfpahollkaaGreatDoorW.PrintLast
end Go.Proofs.YtjiolfpahollkaaGreatDoorW.PrintLast
namespace Go.Proofs.YtjiolfpahollkaaGreatDoorW.PrintMore
end Go.Proofs.YtjiolfpahollkaaGreatDoorW.PrintMore
namespace Go.Proofs.YtjiolfpahollkaaGreatDoorW.PrintWords
end Go.Proofs.YtjiolfpahollkaaGreatDoorW.PrintWords
namespace Go.Proofs.YtjiolfpahollkaaGreatDoor.Msh
open Go.RowKit Go.Sort Go.ChangeMaps Go.MapKept Go.Proofs.YtjiolfpahollkaaGreatDoor.Mp Go.Proofs.YtjiolfpahollkaaGreatDoor.Adm Go.Proofs.YtjiolfpahollkaaGreatDoor.Kfl Go.Proofs.YtjiolfpahollkaaGreatDoor.R Go.Proofs.YtjiolfpahollkaaGreatDoor.E Go.Proofs.YtjiolfpahollkaaGreatDoorW.PrintWords Go.Proofs.YtjiolfpahollkaaGreatDoorW.PrintLast Go.Proofs.YtjiolfpahollkaaGreatDoorW.PrintMore
section
variable {w : World} {mb : Nat} {lp : List S} {A : Option Addr} {c : Nat}
set_option maxHeartbeats 1000000 in
theorem outer_nil (w : World) : Calls Tryz.prog 17 #[.pointer none] w fun e w' => e = .returned (.tuple #[.int .i64 0, .int .i64 2]) ∧ Below w.heap.size w w' := by
  have hmf : ∀ (fn : Fn) (first cap : Array Value) (w : World), (Instr.makeFunc fn first cap).run Tryz.prog w = .ok (.func fn first cap) w := fun _ _ _ _ => rfl
  have htk : ∀ (B : Nat) (W : World), Calls Tryz.prog 64 #[.pointer none, .func (.func 65) #[] #[.pointer (some ⟨B, 0, none⟩)]] W fun e w' => e = .returned (.tuple #[.int .i64 0, .int .i64 2]) ∧ Below W.heap.size W w' := fun B W => by
    have hpt := fun W => parts_nil W
    have hB1 : Below W.heap.size W (W.alloc (.cells #[.func (.func 65) #[] #[.pointer (some ⟨B, 0, none⟩)]] 110)) := below_alloc (Below.refl _ _) _
    go_enter Tryz.func64, Tryz.ntmps64
    go_wp2_with (go_at_call 27; (with_reducible refine (hpt _).mono ?_); rintro u_ w2 ⟨rfl, rfl⟩)
    go_ret2
    exact ⟨rfl, hB1⟩
  have hB1 : Below w.heap.size w (w.alloc (.cells #[.pointer none] 29)) := below_alloc (Below.refl _ _) _
  go_enter Tryz.func17, Tryz.ntmps17
  go_wp2_with (go_at_call 64; (with_reducible refine (htk _ _).mono ?_); rintro u_ w2 ⟨rfl, hb2⟩)
  go_ret2
  exact ⟨rfl, hB1.trans (hb2.mono hB1.size)⟩
set_option maxHeartbeats 1000000 in
theorem holes_nil (A : Option Addr) (n c : Nat) (w : World) : Calls Tryz.prog 19 #[.pointer none, .slice A n c] w fun e w' => e = .returned (.tuple #[.int .i64 0, .int .i64 2]) ∧ Below w.heap.size w w' := by
  have hmy := fun W => cmay_nil (.slice A n c) W
  have hB1 : Below w.heap.size w ((w.alloc (.cells #[.pointer none] 29)).alloc (.cells #[.slice A n c] 22)) := below_alloc (below_alloc (Below.refl _ _) _) _
  go_enter Tryz.func19, Tryz.ntmps19
  go_wp2_with (go_at_call 68; (with_reducible refine (hmy _).mono ?_); rintro u_ w2 ⟨rfl, rfl⟩)
  go_ret2
  exact ⟨rfl, hB1⟩
set_option maxHeartbeats 1000000 in
theorem spread_nil (A : Option Addr) (n c : Nat) (w : World) : Calls Tryz.prog 34 #[.pointer none, .slice A n c] w fun e w' => e = .returned (.tuple #[.slice none 0 0, .int .i64 2]) ∧ Below w.heap.size w w' := by
  have hmy := fun W => cmay_nil (.slice A n c) W
  have hB1 : Below w.heap.size w (w.alloc (.cells #[.pointer none] 29)) := below_alloc (Below.refl _ _) _
  go_enter Tryz.func34, Tryz.ntmps34
  go_wp2_with (go_at_call 68; (with_reducible refine (hmy _).mono ?_); rintro u_ w2 ⟨rfl, rfl⟩)
  go_ret2
  exact ⟨rfl, hB1⟩
set_option maxHeartbeats 1000000 in
theorem spread_bad (hC : Kd.C k68 w A lp.length lp) (hz : lp.length ≤ 1099511627776) (hw : ∀ x ∈ lp, wdS x) (hp : (lp.any fun x => !gp x) = true) : Calls Tryz.prog 34 #[ptr mb, .slice A lp.length c] w fun e w' => e = .returned (.tuple #[.slice none 0 0, .int .i64 10]) ∧ Below w.heap.size w w' := by
  have hB1 : Below w.heap.size w (w.alloc (.cells #[ptr mb] 29)) := below_alloc (Below.refl _ _) _
  have hmy := cmay_call (mb := mb) (c := c) (Kd.C_below hC hB1) hz hw
  rw [hp] at hmy
  have HB := Aside0.mk hB1
  clear hC hz hw hp hB1
  go_enter Tryz.func34, Tryz.ntmps34
  go_wp2_with (go_at_call 68; (with_reducible refine hmy.mono ?_); rintro u_ w2 ⟨rfl, hb2⟩)
  go_ret2
  exact ⟨rfl, HB.out.trans (hb2.mono HB.out.size)⟩
end
end Go.Proofs.YtjiolfpahollkaaGreatDoor.Msh
end
section
set_option linter.unusedVariables false
set_option linter.unusedSimpArgs false
namespace Go.Proofs.YtjiolfpahollkaaGreatDoor.Adm
end Go.Proofs.YtjiolfpahollkaaGreatDoor.Adm
namespace Go.Proofs.YtjiolfpahollkaaGreatDoor.E
end Go.Proofs.YtjiolfpahollkaaGreatDoor.E
namespace Go.Proofs.YtjiolfpahollkaaGreatDoor.Kfl
end Go.Proofs.YtjiolfpahollkaaGreatDoor.Kfl
namespace Go.Proofs.YtjiolfpahollkaaGreatDoor.Mp
end Go.Proofs.YtjiolfpahollkaaGreatDoor.Mp
namespace Go.Proofs.YtjiolfpahollkaaGreatDoor.R
end Go.Proofs.YtjiolfpahollkaaGreatDoor.R
namespace Go.Proofs.YtjiolfpahollkaaGreatDoorW.PrintLast
end Go.Proofs.YtjiolfpahollkaaGreatDoorW.PrintLast
namespace Go.Proofs.YtjiolfpahollkaaGreatDoorW.PrintMore
end Go.Proofs.YtjiolfpahollkaaGreatDoorW.PrintMore
namespace Go.Proofs.YtjiolfpahollkaaGreatDoorW.PrintWords
end Go.Proofs.YtjiolfpahollkaaGreatDoorW.PrintWords
namespace Go.Proofs.YtjiolfpahollkaaGreatDoor.Msh
open Go.RowKit Go.Sort Go.ChangeMaps Go.MapKept Go.Proofs.YtjiolfpahollkaaGreatDoor.Mp Go.Proofs.YtjiolfpahollkaaGreatDoor.Adm Go.Proofs.YtjiolfpahollkaaGreatDoor.Kfl Go.Proofs.YtjiolfpahollkaaGreatDoor.R Go.Proofs.YtjiolfpahollkaaGreatDoor.E Go.Proofs.YtjiolfpahollkaaGreatDoorW.PrintWords Go.Proofs.YtjiolfpahollkaaGreatDoorW.PrintLast Go.Proofs.YtjiolfpahollkaaGreatDoorW.PrintMore
def sqL : List S := [⟨0, 0⟩, ⟨4611686018427387904, 0⟩, ⟨0, 4611686018427387904⟩, ⟨4611686018427387904, 4611686018427387904⟩]
def sqT : List Tr := [(0, 1, 2), (1, 3, 2)]
def sqE : List (Int × Int) := [(0, 1), (1, 3), (3, 2), (2, 0), (1, 2)]
def sqF (n : Nat) : List Tr := (sqE.take n).foldl (fun F p => fixF sqL F p.1 p.2 1) []
theorem sq_all : (allF sqL).2 = 0 := by kernel_rfl
theorem sq_of : ofE sqL [] sqT = (0, sqT) := by kernel_rfl
theorem sq_fix : ∀ p ∈ sqE, fixE sqL p.1 p.2 = 0 := by decide
theorem sq_one (m : Mesh sqT) {fx : Int → Int → Prop} (hf : ∀ a b, fx a b ↔ fx b a) (h : ¬ fx 1 2) : IsParts fx sqT [sqT] := by
  have h01 : Conn fx sqT (0, 1, 2) (1, 3, 2) := .step (.refl _) (by decide) ⟨1, 2, 0, 3, by decide, by decide, h⟩
  have h10 : Conn fx sqT (1, 3, 2) (0, 1, 2) := h01.symm hf (by decide)
  refine ⟨fun p hp => ?_, fun p hp => ?_, by simp, fun t ht => ⟨sqT, by simp, ht⟩, fun p hp s hs => ?_⟩
  · rw [List.mem_singleton.mp hp]; exact m.up
  · rw [List.mem_singleton.mp hp]; decide
  · rw [List.mem_singleton.mp hp] at hs ⊢
    refine ⟨hs, fun t => ⟨fun ht => ?_, fun hc => hc.mem hs⟩⟩
    simp only [sqT, List.mem_cons, List.not_mem_nil, or_false] at hs ht
    rcases hs with rfl | rfl <;> rcases ht with rfl | rfl
    · exact .refl _
    · exact h01
    · exact h10
    · exact .refl _
theorem sq_two (m : Mesh sqT) {fx : Int → Int → Prop} (hf : ∀ a b, fx a b ↔ fx b a) (h : fx 1 2) : IsParts fx sqT [[(0, 1, 2)], [(1, 3, 2)]] := by
  have no : ∀ a b t, behind sqT b a = none → ¬ Beh sqT a b t := fun a b t hb ⟨d, h1, _⟩ => m.apx_none.mp hb d h1
  have n01 : ¬ Nb fx (0, 1, 2) (1, 3, 2) := fun q => by
    rcases (nb_iff m (by decide) (by decide)).mp q with ⟨q, -⟩ | ⟨-, q⟩ | ⟨q, -⟩
    · exact no _ _ _ (by decide) q
    · exact q h
    · exact no _ _ _ (by decide) q
  have n10 : ¬ Nb fx (1, 3, 2) (0, 1, 2) := fun q => n01 (q.symm hf)
  have one : ∀ s t : Tr, s ∈ sqT → (∀ u ∈ sqT, Nb fx s u → u = s) → (t ∈ [s] ↔ Conn fx sqT s t) := fun s t _ hs =>
    ⟨fun q => by rw [List.mem_singleton.mp q]; exact .refl _, fun q => List.mem_singleton.mpr (Conn.closed (S := fun u => u = s) (fun u hu v hv hb => by rw [hu] at hb; exact hs v hv hb) q rfl)⟩
  refine ⟨fun p hp => ?_, fun p hp => ?_, ?_, fun t ht => ?_, fun p hp s hs => ?_⟩
  · simp only [List.mem_cons, List.not_mem_nil, or_false] at hp
    rcases hp with rfl | rfl <;> (unfold Up; simp)
  · simp only [List.mem_cons, List.not_mem_nil, or_false] at hp
    rcases hp with rfl | rfl <;> simp
  · simp; decide
  · simp only [sqT, List.mem_cons, List.not_mem_nil, or_false] at ht
    rcases ht with rfl | rfl
    · exact ⟨[(0, 1, 2)], by simp, by simp⟩
    · exact ⟨[(1, 3, 2)], by simp, by simp⟩
  · simp only [List.mem_cons, List.not_mem_nil, or_false] at hp
    rcases hp with rfl | rfl
    · rw [List.mem_singleton.mp hs]
      refine ⟨by decide, fun t => one _ t (by decide) fun u hu hb => ?_⟩
      simp only [sqT, List.mem_cons, List.not_mem_nil, or_false] at hu
      rcases hu with rfl | rfl
      · rfl
      · exact absurd hb n01
    · rw [List.mem_singleton.mp hs]
      refine ⟨by decide, fun t => one _ t (by decide) fun u hu hb => ?_⟩
      simp only [sqT, List.mem_cons, List.not_mem_nil, or_false] at hu
      rcases hu with rfl | rfl
      · exact absurd hb n10
      · rfl
end Go.Proofs.YtjiolfpahollkaaGreatDoor.Msh
end
section
set_option linter.unusedVariables false
set_option linter.unusedSimpArgs false
namespace Go.Proofs.YtjiolfpahollkaaGreatDoor.Adm
end Go.Proofs.YtjiolfpahollkaaGreatDoor.Adm
namespace Go.Proofs.YtjiolfpahollkaaGreatDoor.E
end Go.Proofs.YtjiolfpahollkaaGreatDoor.E
namespace Go.Proofs.YtjiolfpahollkaaGreatDoor.Kfl
end Go.Proofs.YtjiolfpahollkaaGreatDoor.Kfl
namespace Go.Proofs.YtjiolfpahollkaaGreatDoor.Mp
end Go.Proofs.YtjiolfpahollkaaGreatDoor.Mp
namespace Go.Proofs.YtjiolfpahollkaaGreatDoor.R
end Go.Proofs.YtjiolfpahollkaaGreatDoor.R
namespace Go.Proofs.YtjiolfpahollkaaGreatDoorW.PrintLast
end Go.Proofs.YtjiolfpahollkaaGreatDoorW.PrintLast
namespace Go.Proofs.YtjiolfpahollkaaGreatDoorW.PrintMore
end Go.Proofs.YtjiolfpahollkaaGreatDoorW.PrintMore
namespace Go.Proofs.YtjiolfpahollkaaGreatDoorW.PrintWords
end Go.Proofs.YtjiolfpahollkaaGreatDoorW.PrintWords
namespace Go.Proofs.YtjiolfpahollkaaGreatDoor.Kfl
open Go.RowKit Go.Sort Go.Proofs Go.Proofs.YtjiolfpahollkaaGreatDoorW.PrintWords Go.Proofs.YtjiolfpahollkaaGreatDoorW.PrintLast Go.Proofs.YtjiolfpahollkaaGreatDoorW.PrintMore
theorem flat_f64 : Flat Kd.f64 (fun x => [Value.float .f64 x]) := ⟨fun _ => rfl, fun x v hv => by rw [List.mem_singleton.mp hv]; rfl, fun _ _ _ _ _ => Iff.rfl, fun _ _ _ => Iff.rfl⟩
theorem Flat.iso {α β : Type} {d : Kd α} {enc : α → List Value} (F : Flat d enc) (f : β → α) : Flat (Kd.iso d f) (fun x => enc (f x)) := ⟨fun _ => F.len _, fun _ => F.one _, fun _ _ _ _ _ => F.M _ _ _ _ _, fun _ _ _ => F.K _ _ _⟩
theorem blk_row {α : Type} {d : Kd α} {enc : α → List Value} (F : Flat d enc) {w : World} {g e : Nat} {cs : Array Value} {xs : List α} (hb : w.heap[g]? = some (.cells cs e (0, 0))) (hc : cs.toList = xs.flatMap enc) (hn : xs.length ≤ maxLen) : d.C w (some ⟨g, 0, none⟩) xs.length xs := by
  have hl : (xs.flatMap enc).length = xs.length * d.sz := flat_length F.len xs
  have hR : d.R e w 0 (fun _ => True) (.slice (some ⟨g, 0, none⟩) xs.length xs.length) xs := F.row.mpr ⟨fun _ _ => trivial, hl, .inr ⟨g, xs.length, cs, rfl, Nat.zero_le _, hb, Nat.le_refl _, hn, by rw [← hl, ← hc, Array.length_toList], by rw [hc, ← hl, List.take_length]⟩⟩
  obtain ⟨A, c, he, -, hC⟩ := Kd.R_reads hR
  injection he with he
  rw [he]
  exact hC
end Go.Proofs.YtjiolfpahollkaaGreatDoor.Kfl
namespace Go.Proofs.YtjiolfpahollkaaGreatDoor.Msh
open Go.RowKit Go.Sort Go.ChangeMaps Go.MapKept Go.Proofs.YtjiolfpahollkaaGreatDoor.Mp Go.Proofs.YtjiolfpahollkaaGreatDoor.Adm Go.Proofs.YtjiolfpahollkaaGreatDoor.Kfl Go.Proofs.YtjiolfpahollkaaGreatDoor.R Go.Proofs.YtjiolfpahollkaaGreatDoor.E Go.Proofs.YtjiolfpahollkaaGreatDoorW.PrintWords Go.Proofs.YtjiolfpahollkaaGreatDoorW.PrintLast Go.Proofs.YtjiolfpahollkaaGreatDoorW.PrintMore
theorem flatP : Flat k68 (fun x => [Value.float .f64 x.f0] ++ [Value.float .f64 x.f1]) := (flat_f64.pair flat_f64).iso fun x : S => (x.f0, x.f1)
theorem sq_wd : Wd sqL := fun x hx => by
  simp only [sqL, List.mem_cons, List.not_mem_nil, or_false] at hx
  rcases hx with rfl | rfl | rfl | rfl <;> decide
theorem sq_of_call (A A2 : Option Addr) (w : World) (hl : Kd.C k68 w A 4 sqL) (ht : Kd.C kTr w A2 2 sqT) : Calls Tryz.prog 53 #[.slice A 4 4, .slice A2 2 2] w fun e w' => ∃ mb M, e = .returned (.tuple #[ptr mb, .int .i64 0]) ∧ MeshAt w' mb sqL sqT [] M ∧ (∀ k, M k → w.heap.size ≤ k) ∧ Below w.heap.size w w' :=
  (of_call A 4 sqL A2 2 sqT w hl (by decide) sq_wd ht (by decide)).mono fun e w' ⟨hb, h⟩ => by
    rcases h with ⟨h, -⟩ | ⟨-, h, -⟩ | ⟨-, -, mb, M, he, hm, hk⟩
    · exact absurd sq_all h
    · rw [sq_of] at h; exact absurd rfl h
    · rw [sq_of] at hm; exact ⟨mb, M, he, hm, hk, hb⟩
theorem sq_next (i : Nat) (hi : i < 5) : sqF (i + 1) = fixF sqL (sqF i) (sqE.getD i (0, 0)).1 (sqE.getD i (0, 0)).2 1 := by
  rcases (show i = 0 ∨ i = 1 ∨ i = 2 ∨ i = 3 ∨ i = 4 by omega) with rfl | rfl | rfl | rfl | rfl <;> rfl
set_option maxRecDepth 100000 in
set_option maxHeartbeats 8000000 in
theorem square_call (n : Nat) (hn : n ≤ 5) (w : World) : Calls Tryz.prog 37 #[.int .i64 n] w fun e w' => ∃ mb M, e = .returned (ptr mb) ∧ MeshAt w' mb sqL sqT (sqF n) M ∧ (∀ k, M k → w.heap.size ≤ k) ∧ Below w.heap.size w w' := by
  obtain ⟨W2, hW2⟩ : ∃ W2, W2 = (w.alloc (.cells #[.float .f64 0, .float .f64 0, .float .f64 4611686018427387904, .float .f64 0, .float .f64 0, .float .f64 4611686018427387904, .float .f64 4611686018427387904, .float .f64 4611686018427387904] 68)).alloc (.cells #[.int .i64 0, .int .i64 1, .int .i64 2, .int .i64 1, .int .i64 3, .int .i64 2] 53) := ⟨_, rfl⟩
  have hB2 : Below w.heap.size w W2 := by rw [hW2]; exact below_alloc (below_alloc (Below.refl _ _) _) _
  have hof := sq_of_call (some ⟨w.heap.size, 0, none⟩) (some ⟨w.heap.size + 1, 0, none⟩) W2 (blk_row flatP (by rw [hW2]; exact blk_alloc (blk_new _ _) _) (by rfl) (by decide)) (blk_row flatT (by rw [hW2]; exact blk_new2 _ _ _) (by rfl) (by decide))
  rw [hW2] at hof
  go_enter Tryz.func37, Tryz.ntmps37
  go_wp2_with (go_at_call 53; (with_reducible refine hof.mono ?_); rintro u_ w3 ⟨mb, M, rfl, hM3, hk3, hB3⟩; rw [← hW2] at hk3 hB3)
  obtain ⟨W4, hW4⟩ : ∃ W4, W4 = w3.alloc (.cells #[.int .i64 0, .int .i64 1, .int .i64 1, .int .i64 3, .int .i64 3, .int .i64 2, .int .i64 2, .int .i64 0, .int .i64 1, .int .i64 2] 72) := ⟨_, rfl⟩
  have hB4 : Below w3.heap.size w3 W4 := by rw [hW4]; exact below_alloc (Below.refl _ _) _
  have HE4 : Aside0 (W4.heap[w3.heap.size]? = some (.cells #[.int .i64 0, .int .i64 1, .int .i64 1, .int .i64 3, .int .i64 3, .int .i64 2, .int .i64 2, .int .i64 0, .int .i64 1, .int .i64 2] 72 (0, 0)) ∧ w3.heap.size < W4.heap.size ∧ ∀ k, M k → k < w3.heap.size) := ⟨by rw [hW4]; exact blk_new _ _, by rw [hW4]; simp, hM3.old⟩
  have HB := Aside0.mk (And.intro ((hB2.trans (hB3.mono hB2.size)).trans (hB4.mono (Nat.le_trans hB2.size hB3.size))) (And.intro hk3 hB2.size))
  have HS : Aside0 (MeshAt W4 mb sqL sqT (sqF 0) M ∧ Fr M W4 W4) := ⟨⟨hM3.below hB4, Fr.refl _ _⟩⟩
  rw [← hW4]
  clear hof hW2 hB2 hM3 hk3 hB3 hB4 hW4
  generalize w3.heap.size = B5 at *
  go_loopw [4, 6] (fun v4 v6 wr => ∃ (i : Nat), v4 = .int .i64 0 ∧ v6 = .int .i64 i ∧ i ≤ n ∧ Aside0 (MeshAt wr mb sqL sqT (sqF i) M ∧ Fr M W4 wr)) (fun _ v6 _ => n - (intOf v6).toNat)
  case atStart => exact ⟨0, rfl, rfl, by omega, HS⟩
  case round =>
    clear HS
    obtain ⟨i, rfl, rfl, hi, HT⟩ := hrel
    by_cases hlt : i < n
    · have hbk : wr.heap[B5]? = some (.cells #[.int .i64 0, .int .i64 1, .int .i64 1, .int .i64 3, .int .i64 3, .int .i64 2, .int .i64 2, .int .i64 0, .int .i64 1, .int .i64 2] 72 (0, 0)) := (HT.out.2.block B5 HE4.out.2.1 fun q => by have := HE4.out.2.2 _ q; omega).trans HE4.out.1
      have HN : Aside0 (fixF sqL (sqF i) (sqE.getD i (0, 0)).1 (sqE.getD i (0, 0)).2 1 = sqF (i + 1)) := ⟨(sq_next i (by omega)).symm⟩
      have HX : Aside0 (fixE sqL (sqE.getD i (0, 0)).1 (sqE.getD i (0, 0)).2 = 0) := ⟨sq_fix _ (by rw [List.getD_eq_getElem?_getD, List.getElem?_eq_getElem (show i < sqE.length by simp [sqE]; omega)]; exact List.getElem_mem _)⟩
      have d1 : decide (i < n) = true := decide_eq_true hlt
      have d2 : ((i < n) = True) := by simp; omega
      have HL : Aside0 (∀ W, Gr wr W → W.cell? ⟨B5, 0, none⟩ = some (.int .i64 0) ∧ W.cell? ⟨B5, 1, none⟩ = some (.int .i64 1) ∧ W.cell? ⟨B5, 2, none⟩ = some (.int .i64 1) ∧ W.cell? ⟨B5, 3, none⟩ = some (.int .i64 3) ∧ W.cell? ⟨B5, 4, none⟩ = some (.int .i64 3) ∧ W.cell? ⟨B5, 5, none⟩ = some (.int .i64 2) ∧ W.cell? ⟨B5, 6, none⟩ = some (.int .i64 2) ∧ W.cell? ⟨B5, 7, none⟩ = some (.int .i64 0) ∧ W.cell? ⟨B5, 8, none⟩ = some (.int .i64 1) ∧ W.cell? ⟨B5, 9, none⟩ = some (.int .i64 2)) := ⟨fun W hW => by have := gr_blk hbk hW; exact ⟨blk_cell this 0, blk_cell this 1, blk_cell this 2, blk_cell this 3, blk_cell this 4, blk_cell this 5, blk_cell this 6, blk_cell this 7, blk_cell this 8, blk_cell this 9⟩⟩
      have hfx := fun (W : World) (hW : Gr wr W) (a b : Int) (ha : W64 a) (hb : W64 b) => fix_call (cm := 1) (HT.out.1.below hW.below) ha hb
      have i1 : IntKind.i64.wrap 1 = 1 := by decide
      have i2 : IntKind.i64.wrap 2 = 2 := by decide
      have i3 : IntKind.i64.wrap 3 = 3 := by decide
      have i4 : IntKind.i64.wrap 4 = 4 := by decide
      have i5 : IntKind.i64.wrap 5 = 5 := by decide
      rcases (show i = 0 ∨ i = 1 ∨ i = 2 ∨ i = 3 ∨ i = 4 by omega) with rfl | rfl | rfl | rfl | rfl
      all_goals
        simp only [sqE, List.getD_cons_zero, List.getD_cons_succ] at HN HX
        go_upto_region 6 with (fail)
        go_region_held3 (fun W => W.cell? ⟨B5, 0, none⟩ = some (.int .i64 0) ∧ W.cell? ⟨B5, 1, none⟩ = some (.int .i64 1) ∧ W.cell? ⟨B5, 2, none⟩ = some (.int .i64 1) ∧ W.cell? ⟨B5, 3, none⟩ = some (.int .i64 3) ∧ W.cell? ⟨B5, 4, none⟩ = some (.int .i64 3) ∧ W.cell? ⟨B5, 5, none⟩ = some (.int .i64 2) ∧ W.cell? ⟨B5, 6, none⟩ = some (.int .i64 2) ∧ W.cell? ⟨B5, 7, none⟩ = some (.int .i64 0) ∧ W.cell? ⟨B5, 8, none⟩ = some (.int .i64 1) ∧ W.cell? ⟨B5, 9, none⟩ = some (.int .i64 2))
          (first | exact HS7.out | (with_reducible refine HL.out _ ?_; (repeat (first | assumption | exact Gr.refl _ | apply Gr.drew | apply Gr.alloc | apply Gr.drewN))))
          ((go_at_call 51; (with_reducible refine (hfx _ (by (with_reducible (repeat (first | exact Gr.refl _ | apply Gr.drew | apply Gr.drewN)))) _ _ (w64 (by decide) (by decide)) (w64 (by decide) (by decide))).mono ?_); rintro u_ w7 ⟨he, hm7, hf7⟩; rw [HX.out] at he; subst he; rw [HN.out] at hm7; have hb7 := (hf7.block B5 (blk_lt hbk) (fun q => by have := HE4.out.2.2 _ q; omega)).trans hbk; have HS7 := Aside0.mk (And.intro (blk_cell hb7 0) (And.intro (blk_cell hb7 1) (And.intro (blk_cell hb7 2) (And.intro (blk_cell hb7 3) (And.intro (blk_cell hb7 4) (And.intro (blk_cell hb7 5) (And.intro (blk_cell hb7 6) (And.intro (blk_cell hb7 7) (And.intro (blk_cell hb7 8) (blk_cell hb7 9))))))))))))
        all_goals
          go_wp2
          have HT7 := Aside0.mk (And.intro hm7 (HT.out.2.trans ((fr_of_gr (M := M) (Gr.refl wr).drew).trans hf7 fun _ _ q => q) fun _ _ q => q))
          go_roundw
          case rel => exact (by first | exact ⟨0 + 1, rfl, rfl, by omega, HT7⟩ | exact ⟨1 + 1, rfl, rfl, by omega, HT7⟩ | exact ⟨2 + 1, rfl, rfl, by omega, HT7⟩ | exact ⟨3 + 1, rfl, rfl, by omega, HT7⟩ | exact ⟨4 + 1, rfl, rfl, by omega, HT7⟩)
          case measure => simp [intOf]; omega
    · have e : i = n := by omega
      subst e
      have d1 : decide (i < i) = false := by simp
      have HF := Aside0.mk HT.out
      clear HT
      go_wp2
      go_ret
      exact ⟨mb, M, rfl, HF.out.1, fun k hk => Nat.le_trans HB.out.2.2 (HB.out.2.1 k hk), HB.out.1.trans (HF.out.2.below (fun q hq => Nat.le_trans HB.out.2.2 (HB.out.2.1 q hq)) HB.out.1.size)⟩
end Go.Proofs.YtjiolfpahollkaaGreatDoor.Msh
end
