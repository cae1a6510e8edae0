/- What the proof needs of Mdr: only what is used is left (wip/tools/prune.py). Conditions stand in each sentence. -/
import Derived.Test.YtjiolfpahollkaaGreatDoorQNMdq
section
set_option linter.unusedVariables false
set_option linter.unusedSimpArgs false
namespace Go.Proofs.YtjiolfpahollkaaGreatDoor.Adm
end Go.Proofs.YtjiolfpahollkaaGreatDoor.Adm
namespace Go.Proofs.YtjiolfpahollkaaGreatDoor.Kfl
end Go.Proofs.YtjiolfpahollkaaGreatDoor.Kfl
namespace Go.Proofs.YtjiolfpahollkaaGreatDoor.Mp
end Go.Proofs.YtjiolfpahollkaaGreatDoor.Mp
namespace Go.Proofs.YtjiolfpahollkaaGreatDoorW.PrintLast
end Go.Proofs.YtjiolfpahollkaaGreatDoorW.PrintLast
namespace Go.Proofs.YtjiolfpahollkaaGreatDoorW.PrintMore
end Go.Proofs.YtjiolfpahollkaaGreatDoorW.PrintMore
namespace Go.Proofs.YtjiolfpahollkaaGreatDoorW.PrintWords
end Go.Proofs.YtjiolfpahollkaaGreatDoorW.PrintWords
namespace Go.Proofs.YtjiolfpahollkaaGreatDoor.Msh
open Go.RowKit Go.Sort Go.ChangeMaps Go.MapKept Go.Proofs.YtjiolfpahollkaaGreatDoor.Mp Go.Proofs.YtjiolfpahollkaaGreatDoor.Adm Go.Proofs.YtjiolfpahollkaaGreatDoor.Kfl Go.Proofs.YtjiolfpahollkaaGreatDoorW.PrintWords Go.Proofs.YtjiolfpahollkaaGreatDoorW.PrintLast Go.Proofs.YtjiolfpahollkaaGreatDoorW.PrintMore
section
variable {w W : World} {mb B : Nat} {l : List S} {O F : List Tr} {M : Nat → Prop}
set_option maxHeartbeats 1000000 in
theorem outerc_call (h : MeshAt W mb l O F M) (hk : W.cell? ⟨B, 0, none⟩ = some (ptr mb)) {t : Tr} (ht : okT t) : Calls Tryz.prog 65 #[encT t, .pointer (some ⟨B, 0, none⟩)] W fun e w' => e = .returned (.bool (openB O F t)) ∧ Below W.heap.size W w' := by
  obtain ⟨a, b, c⟩ := t
  unfold encT
  simp only
  obtain ⟨W1, hW1⟩ : ∃ W1, W1 = W.alloc (.cells #[.int .i64 a, .int .i64 b, .int .i64 c] 53) := ⟨_, rfl⟩
  have hB1 : Below W.heap.size W W1 := by rw [hW1]; exact below_alloc (Below.refl _ _) _
  have hop := open_call (h.below hB1) ht.1 ht.2.1 ht.2.2
  have k1 := bcell hB1 hk
  rw [hW1] at hop hB1 k1
  clear h ht hW1 hk
  go_enter Tryz.func65, Tryz.ntmps65
  go_wp2_with (go_at_call 66; (with_reducible refine hop.mono ?_); rintro u_ w2 ⟨rfl, hg2⟩)
  go_ret
  exact ⟨rfl, hB1.trans (hg2.below.mono hB1.size)⟩
set_option maxHeartbeats 1000000 in
theorem outer_call (h : MeshAt w mb l O F M) : Calls Tryz.prog 17 #[ptr mb] w fun e w' => ∃ L, IsParts (Fixd F) O L ∧ e = .returned (.tuple #[.int .i64 (((L.filter fun p => p.any (openB O F)).flatten.length : Nat) : Int), .int .i64 0]) ∧ MeshAt w' mb l (O.filter fun t => decide (t ∉ (L.filter fun p => p.any (openB O F)).flatten)) F M ∧ Fr M w w' := by
  obtain ⟨W1, hW1⟩ : ∃ W1, W1 = w.alloc (.cells #[ptr mb] 29) := ⟨_, rfl⟩
  have hB1 : Below w.heap.size w W1 := by rw [hW1]; exact below_alloc (Below.refl _ _) _
  have hbox : W1.heap[w.heap.size]? = some (.cells #[ptr mb] 29 (0, 0)) := by rw [hW1]; exact blk_new _ _
  have hmf : ∀ (fn : Fn) (first cap : Array Value) (w : World), (Instr.makeFunc fn first cap).run Tryz.prog w = .ok (.func fn first cap) w := fun _ _ _ _ => rfl
  have htk := takeO_call w.heap.size (h.below hB1) (openB O F) (fun t ht W hb => outerc_call ((h.below hB1).below hb) (bcell hb (blk_cell hbox 0)) (mesh_rng h ht))
  have hc := (blk_cell hbox 0).trans (show _ = some (ptr mb) from rfl)
  rw [hW1] at htk hB1 hc
  clear h hbox hW1
  go_enter Tryz.func17, Tryz.ntmps17
  go_wp2_with (go_at_call 64; (with_reducible refine htk.mono ?_); rintro u_ w2 ⟨L, hL, he, hM2, hF2⟩; generalize hn : (L.filter fun p => p.any (openB O F)).flatten.length = n at he; subst he)
  go_ret2
  refine ⟨L, hL, ?_, hM2, ?_⟩
  · rw [hn]; rfl
  · exact (Fr.of_below (M := M) hB1).trans hF2 fun _ _ q => q
end
end Go.Proofs.YtjiolfpahollkaaGreatDoor.Msh
end
section
set_option linter.unusedVariables false
set_option linter.unusedSimpArgs false
namespace Go.Proofs.YtjiolfpahollkaaGreatDoor.Adm
end Go.Proofs.YtjiolfpahollkaaGreatDoor.Adm
namespace Go.Proofs.YtjiolfpahollkaaGreatDoor.E
end Go.Proofs.YtjiolfpahollkaaGreatDoor.E
namespace Go.Proofs.YtjiolfpahollkaaGreatDoor.Kfl
end Go.Proofs.YtjiolfpahollkaaGreatDoor.Kfl
namespace Go.Proofs.YtjiolfpahollkaaGreatDoor.R
end Go.Proofs.YtjiolfpahollkaaGreatDoor.R
namespace Go.Proofs.YtjiolfpahollkaaGreatDoorW.PrintLast
end Go.Proofs.YtjiolfpahollkaaGreatDoorW.PrintLast
namespace Go.Proofs.YtjiolfpahollkaaGreatDoorW.PrintMore
end Go.Proofs.YtjiolfpahollkaaGreatDoorW.PrintMore
namespace Go.Proofs.YtjiolfpahollkaaGreatDoorW.PrintWords
end Go.Proofs.YtjiolfpahollkaaGreatDoorW.PrintWords
namespace Go.Proofs.YtjiolfpahollkaaGreatDoor.Msh
open Go.RowKit Go.Sort Go.Proofs.YtjiolfpahollkaaGreatDoor.Adm Go.Proofs.YtjiolfpahollkaaGreatDoor.Kfl Go.Proofs.YtjiolfpahollkaaGreatDoor.R Go.Proofs.YtjiolfpahollkaaGreatDoor.E Go.Proofs.YtjiolfpahollkaaGreatDoorW.PrintWords Go.Proofs.YtjiolfpahollkaaGreatDoorW.PrintLast Go.Proofs.YtjiolfpahollkaaGreatDoorW.PrintMore
set_option maxRecDepth 100000 in
set_option maxHeartbeats 4000000 in
theorem idxPH_call (B C : Nat) {A : Option Addr} {c : Nat} {l : List S} {w : World} (hC : Kd.C k68 w A l.length l) (hz : l.length ≤ 1099511627776) (p : S → Bool) (hp : ∀ x ∈ l, ∀ W, Below w.heap.size w W → Calls Tryz.prog 71 #[ptV x, .pointer (some ⟨B, 0, none⟩), .pointer (some ⟨C, 0, none⟩)] W fun e w' => e = .returned (.bool (p x)) ∧ Below W.heap.size W w') :
    Calls Tryz.prog 81 #[.slice A l.length c, .func (.func 71) #[] #[.pointer (some ⟨B, 0, none⟩), .pointer (some ⟨C, 0, none⟩)]] w fun e w' => e = .returned (.int .i64 (idxF p 0 l)) ∧ Below w.heap.size w w' := by
  go_enter Tryz.func81, Tryz.ntmps81
  go_wp2
  go_loopw [8] (fun x wr => ∃ (n : Nat), x = .int .i64 n ∧ n ≤ l.length ∧ Below w.heap.size w wr ∧ Aside0 (idxF p n (l.drop n) = idxF p 0 l)) (fun x _ => l.length - (intOf x).toNat)
  case atStart => exact ⟨0, rfl, Nat.zero_le _, Below.refl _ _, ⟨rfl⟩⟩
  case round =>
    obtain ⟨n, rfl, hn, hB, hi⟩ := hrel
    by_cases hlt : n < l.length
    · have d1 : decide ((n : Int) < (l.length : Int)) = true := by simp; omega
      have d2 : decide (n < l.length) = true := by simp; omega
      have d3 : decide ((0 : Int) ≤ n) = true := by simp
      have d5 : ((n < l.length) = True) := by simp; omega
      have ik : IntKind.i64.wrap ((n : Int) + 1) = (n : Int) + 1 := wrapN (by omega) (by omega)
      obtain ⟨ad, rfl, hx0, hx1⟩ := at_T68 (Kd.C_below hC hB) (n : Int) (by omega) (by omega)
      have hr : rd_T68 l (n : Int) = l[n] := by unfold rd_T68; rw [Int.toNat_natCast, List.getD_eq_getElem?_getD, List.getElem?_eq_getElem hlt]; rfl
      rw [Int.toNat_natCast, hr] at hx0 hx1
      replace hi := hi.out
      rw [List.drop_eq_getElem_cons hlt, idxF] at hi
      have hcl := fun W h => hp l[n] (List.getElem_mem hlt) W h
      clear hr
      generalize l[n] = x at *
      have HC := Aside0.mk hC
      clear hC
      cases hg : p x
      · simp only [hg] at hcl
        rw [hg, if_neg (by decide)] at hi
        replace hi := Aside0.mk hi
        go_wp2_with (go_at_call 71; (with_reducible refine (hcl _ hB).mono ?_); rintro y w1 ⟨rfl, hb1⟩)
        go_roundw
        case rel => exact ⟨n + 1, by simp, by omega, hB.trans (hb1.mono hB.size), hi⟩
        case measure => simp [intOf]; omega
      · simp only [hg] at hcl
        rw [hg, if_pos rfl] at hi
        replace hi := Aside0.mk hi
        go_wp2_with (go_at_call 71; (with_reducible refine (hcl _ hB).mono ?_); rintro y w1 ⟨rfl, hb1⟩)
        go_ret
        rw [← hi.out]
        exact ⟨rfl, hB.trans (hb1.mono hB.size)⟩
    · have d1 : decide ((n : Int) < (l.length : Int)) = false := by simp; omega
      have d2 : decide (n < l.length) = false := by simp; omega
      have d5 : ((n < l.length) = False) := by simp; omega
      replace hi := hi.out
      rw [List.drop_eq_nil_of_le (by omega), idxF] at hi
      replace hi := Aside0.mk hi
      go_wp2
      go_ret
      rw [← hi.out]
      exact ⟨rfl, hB⟩
set_option maxHeartbeats 1000000 in
theorem hasPH_call (B C : Nat) {A : Option Addr} {c : Nat} {l : List S} {w : World} (hC : Kd.C k68 w A l.length l) (hz : l.length ≤ 1099511627776) (p : S → Bool) (hp : ∀ x ∈ l, ∀ W, Below w.heap.size w W → Calls Tryz.prog 71 #[ptV x, .pointer (some ⟨B, 0, none⟩), .pointer (some ⟨C, 0, none⟩)] W fun e w' => e = .returned (.bool (p x)) ∧ Below W.heap.size W w') :
    Calls Tryz.prog 70 #[.slice A l.length c, .func (.func 71) #[] #[.pointer (some ⟨B, 0, none⟩), .pointer (some ⟨C, 0, none⟩)]] w fun e w' => e = .returned (.bool (l.any p)) ∧ Below w.heap.size w w' := by
  have hi := idxPH_call B C (c := c) hC hz p hp
  have e := idx_any p l ⟨0, 0⟩
  generalize idxF p 0 l = q at *
  clear hp hC
  go_enter Tryz.func70, Tryz.ntmps70
  go_wp2_with (go_at_call 81; (with_reducible refine hi.mono ?_); rintro u_ w2 ⟨rfl, hb2⟩)
  go_ret
  rw [← e]
  exact ⟨rfl, hb2⟩
set_option maxRecDepth 100000 in
set_option maxHeartbeats 4000000 in
theorem idxPS_call (B C : Nat) {A : Option Addr} {c : Nat} {l : List S} {w : World} (hC : Kd.C k68 w A l.length l) (hz : l.length ≤ 1099511627776) (p : S → Bool) (hp : ∀ x ∈ l, ∀ W, Below w.heap.size w W → Calls Tryz.prog 82 #[ptV x, .pointer (some ⟨B, 0, none⟩), .pointer (some ⟨C, 0, none⟩)] W fun e w' => e = .returned (.bool (p x)) ∧ Below W.heap.size W w') :
    Calls Tryz.prog 81 #[.slice A l.length c, .func (.func 82) #[] #[.pointer (some ⟨B, 0, none⟩), .pointer (some ⟨C, 0, none⟩)]] w fun e w' => e = .returned (.int .i64 (idxF p 0 l)) ∧ Below w.heap.size w w' := by
  go_enter Tryz.func81, Tryz.ntmps81
  go_wp2
  go_loopw [8] (fun x wr => ∃ (n : Nat), x = .int .i64 n ∧ n ≤ l.length ∧ Below w.heap.size w wr ∧ Aside0 (idxF p n (l.drop n) = idxF p 0 l)) (fun x _ => l.length - (intOf x).toNat)
  case atStart => exact ⟨0, rfl, Nat.zero_le _, Below.refl _ _, ⟨rfl⟩⟩
  case round =>
    obtain ⟨n, rfl, hn, hB, hi⟩ := hrel
    by_cases hlt : n < l.length
    · have d1 : decide ((n : Int) < (l.length : Int)) = true := by simp; omega
      have d2 : decide (n < l.length) = true := by simp; omega
      have d3 : decide ((0 : Int) ≤ n) = true := by simp
      have d5 : ((n < l.length) = True) := by simp; omega
      have ik : IntKind.i64.wrap ((n : Int) + 1) = (n : Int) + 1 := wrapN (by omega) (by omega)
      obtain ⟨ad, rfl, hx0, hx1⟩ := at_T68 (Kd.C_below hC hB) (n : Int) (by omega) (by omega)
      have hr : rd_T68 l (n : Int) = l[n] := by unfold rd_T68; rw [Int.toNat_natCast, List.getD_eq_getElem?_getD, List.getElem?_eq_getElem hlt]; rfl
      rw [Int.toNat_natCast, hr] at hx0 hx1
      replace hi := hi.out
      rw [List.drop_eq_getElem_cons hlt, idxF] at hi
      have hcl := fun W h => hp l[n] (List.getElem_mem hlt) W h
      clear hr
      generalize l[n] = x at *
      have HC := Aside0.mk hC
      clear hC
      cases hg : p x
      · simp only [hg] at hcl
        rw [hg, if_neg (by decide)] at hi
        replace hi := Aside0.mk hi
        go_wp2_with (go_at_call 82; (with_reducible refine (hcl _ hB).mono ?_); rintro y w1 ⟨rfl, hb1⟩)
        go_roundw
        case rel => exact ⟨n + 1, by simp, by omega, hB.trans (hb1.mono hB.size), hi⟩
        case measure => simp [intOf]; omega
      · simp only [hg] at hcl
        rw [hg, if_pos rfl] at hi
        replace hi := Aside0.mk hi
        go_wp2_with (go_at_call 82; (with_reducible refine (hcl _ hB).mono ?_); rintro y w1 ⟨rfl, hb1⟩)
        go_ret
        rw [← hi.out]
        exact ⟨rfl, hB.trans (hb1.mono hB.size)⟩
    · have d1 : decide ((n : Int) < (l.length : Int)) = false := by simp; omega
      have d2 : decide (n < l.length) = false := by simp; omega
      have d5 : ((n < l.length) = False) := by simp; omega
      replace hi := hi.out
      rw [List.drop_eq_nil_of_le (by omega), idxF] at hi
      replace hi := Aside0.mk hi
      go_wp2
      go_ret
      rw [← hi.out]
      exact ⟨rfl, hB⟩
set_option maxRecDepth 100000 in
set_option maxHeartbeats 4000000 in
theorem idxPM_call {A : Option Addr} {c : Nat} {l : List S} {w : World} (hC : Kd.C k68 w A l.length l) (hz : l.length ≤ 1099511627776) (p : S → Bool) (hp : ∀ x ∈ l, ∀ W, Below w.heap.size w W → Calls Tryz.prog 123 #[ptV x] W fun e w' => e = .returned (.bool (p x)) ∧ Below W.heap.size W w') :
    Calls Tryz.prog 81 #[.slice A l.length c, .func (.func 123) #[] #[]] w fun e w' => e = .returned (.int .i64 (idxF p 0 l)) ∧ Below w.heap.size w w' := by
  go_enter Tryz.func81, Tryz.ntmps81
  go_wp2
  go_loopw [8] (fun x wr => ∃ (n : Nat), x = .int .i64 n ∧ n ≤ l.length ∧ Below w.heap.size w wr ∧ Aside0 (idxF p n (l.drop n) = idxF p 0 l)) (fun x _ => l.length - (intOf x).toNat)
  case atStart => exact ⟨0, rfl, Nat.zero_le _, Below.refl _ _, ⟨rfl⟩⟩
  case round =>
    obtain ⟨n, rfl, hn, hB, hi⟩ := hrel
    by_cases hlt : n < l.length
    · have d1 : decide ((n : Int) < (l.length : Int)) = true := by simp; omega
      have d2 : decide (n < l.length) = true := by simp; omega
      have d3 : decide ((0 : Int) ≤ n) = true := by simp
      have d5 : ((n < l.length) = True) := by simp; omega
      have ik : IntKind.i64.wrap ((n : Int) + 1) = (n : Int) + 1 := wrapN (by omega) (by omega)
      obtain ⟨ad, rfl, hx0, hx1⟩ := at_T68 (Kd.C_below hC hB) (n : Int) (by omega) (by omega)
      have hr : rd_T68 l (n : Int) = l[n] := by unfold rd_T68; rw [Int.toNat_natCast, List.getD_eq_getElem?_getD, List.getElem?_eq_getElem hlt]; rfl
      rw [Int.toNat_natCast, hr] at hx0 hx1
      replace hi := hi.out
      rw [List.drop_eq_getElem_cons hlt, idxF] at hi
      have hcl := fun W h => hp l[n] (List.getElem_mem hlt) W h
      clear hr
      generalize l[n] = x at *
      have HC := Aside0.mk hC
      clear hC
      cases hg : p x
      · simp only [hg] at hcl
        rw [hg, if_neg (by decide)] at hi
        replace hi := Aside0.mk hi
        go_wp2_with (go_at_call 123; (with_reducible refine (hcl _ hB).mono ?_); rintro y w1 ⟨rfl, hb1⟩)
        go_roundw
        case rel => exact ⟨n + 1, by simp, by omega, hB.trans (hb1.mono hB.size), hi⟩
        case measure => simp [intOf]; omega
      · simp only [hg] at hcl
        rw [hg, if_pos rfl] at hi
        replace hi := Aside0.mk hi
        go_wp2_with (go_at_call 123; (with_reducible refine (hcl _ hB).mono ?_); rintro y w1 ⟨rfl, hb1⟩)
        go_ret
        rw [← hi.out]
        exact ⟨rfl, hB.trans (hb1.mono hB.size)⟩
    · have d1 : decide ((n : Int) < (l.length : Int)) = false := by simp; omega
      have d2 : decide (n < l.length) = false := by simp; omega
      have d5 : ((n < l.length) = False) := by simp; omega
      replace hi := hi.out
      rw [List.drop_eq_nil_of_le (by omega), idxF] at hi
      replace hi := Aside0.mk hi
      go_wp2
      go_ret
      rw [← hi.out]
      exact ⟨rfl, hB⟩
set_option maxHeartbeats 1000000 in
theorem hasPM_call {A : Option Addr} {c : Nat} {l : List S} {w : World} (hC : Kd.C k68 w A l.length l) (hz : l.length ≤ 1099511627776) (p : S → Bool) (hp : ∀ x ∈ l, ∀ W, Below w.heap.size w W → Calls Tryz.prog 123 #[ptV x] W fun e w' => e = .returned (.bool (p x)) ∧ Below W.heap.size W w') :
    Calls Tryz.prog 70 #[.slice A l.length c, .func (.func 123) #[] #[]] w fun e w' => e = .returned (.bool (l.any p)) ∧ Below w.heap.size w w' := by
  have hi := idxPM_call (c := c) hC hz p hp
  have e := idx_any p l ⟨0, 0⟩
  generalize idxF p 0 l = q at *
  clear hp hC
  go_enter Tryz.func70, Tryz.ntmps70
  go_wp2_with (go_at_call 81; (with_reducible refine hi.mono ?_); rintro u_ w2 ⟨rfl, hb2⟩)
  go_ret
  rw [← e]
  exact ⟨rfl, hb2⟩
end Go.Proofs.YtjiolfpahollkaaGreatDoor.Msh
end
