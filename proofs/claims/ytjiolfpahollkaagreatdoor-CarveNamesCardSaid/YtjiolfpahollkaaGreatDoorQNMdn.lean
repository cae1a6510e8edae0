/- What the proof needs of Mdn: only what is used is left (wip/tools/prune.py). Conditions stand in each sentence. -/
import Derived.Test.YtjiolfpahollkaaGreatDoorQNMdm
import Derived.Test.YtjiolfpahollkaaGreatDoorQNMco
set_option linter.unusedVariables false
set_option linter.unusedSimpArgs false
namespace Go.Proofs.YtjiolfpahollkaaGreatDoor.Adm
end Go.Proofs.YtjiolfpahollkaaGreatDoor.Adm
namespace Go.Proofs.YtjiolfpahollkaaGreatDoor.Kfl
end Go.Proofs.YtjiolfpahollkaaGreatDoor.Kfl
namespace Go.Proofs.YtjiolfpahollkaaGreatDoorW.PrintLast
end Go.Proofs.YtjiolfpahollkaaGreatDoorW.PrintLast
namespace Go.Proofs.YtjiolfpahollkaaGreatDoorW.PrintMore
end Go.Proofs.YtjiolfpahollkaaGreatDoorW.PrintMore
namespace Go.Proofs.YtjiolfpahollkaaGreatDoorW.PrintWords
end Go.Proofs.YtjiolfpahollkaaGreatDoorW.PrintWords
namespace Go.Proofs.YtjiolfpahollkaaGreatDoor.Msh
open Go.RowKit Go.Sort Go.Proofs.YtjiolfpahollkaaGreatDoor.Adm Go.Proofs.YtjiolfpahollkaaGreatDoor.Kfl Go.Proofs.YtjiolfpahollkaaGreatDoorW.PrintWords Go.Proofs.YtjiolfpahollkaaGreatDoorW.PrintLast Go.Proofs.YtjiolfpahollkaaGreatDoorW.PrintMore
theorem idx_any {α : Type} (p : α → Bool) (l : List α) (z : α) : decide (0 ≤ idxF p 0 l) = l.any p := by
  rcases idxF_spec (p := p) (z := z) l 0 with ⟨h1, h2⟩ | ⟨k, hk, h1, h2, -⟩
  · rw [h1]
    have : l.any p = false := List.any_eq_false.mpr fun x hx => by rw [h2 x hx]; decide
    rw [this]; rfl
  · rw [h1]
    have : l.any p = true := List.any_eq_true.mpr ⟨l[k], List.getElem_mem hk, by rw [List.getD_eq_getElem?_getD, List.getElem?_eq_getElem hk] at h2; exact h2⟩
    rw [this]
    exact decide_eq_true (by omega)
set_option maxRecDepth 100000 in
set_option maxHeartbeats 4000000 in
theorem idxTO_call (B : Nat) {t : Bool} {base : Nat} {v : Value} {l : List Tr} {w : World} (hR : LRow t w base 53 3 v l.length (l.flatMap cT)) (hz : l.length ≤ 1099511627776) (p : Tr → Bool) (hp : ∀ x ∈ l, ∀ W, Below w.heap.size w W → Calls Tryz.prog 65 #[encT x, .pointer (some ⟨B, 0, none⟩)] W fun e w' => e = .returned (.bool (p x)) ∧ Below W.heap.size W w') :
    Calls Tryz.prog 134 #[v, .func (.func 65) #[] #[.pointer (some ⟨B, 0, none⟩)]] w fun e w' => e = .returned (.int .i64 (idxF p 0 l)) ∧ Below w.heap.size w w' := by
  obtain ⟨A, c, hv⟩ := hR.any
  subst hv
  go_enter Tryz.func134, Tryz.ntmps134
  go_wp2
  go_loopw [8] (fun x wr => ∃ (n : Nat), x = .int .i64 n ∧ n ≤ l.length ∧ Below w.heap.size w wr ∧ Aside0 (idxF p n (l.drop n) = idxF p 0 l)) (fun x _ => l.length - (intOf x).toNat)
  case atStart => exact ⟨0, rfl, Nat.zero_le _, Below.refl _ _, ⟨rfl⟩⟩
  case round =>
    obtain ⟨n, rfl, hn, hB, hi⟩ := hrel
    by_cases hlt : n < l.length
    · have d2 : decide (n < l.length) = true := by simp; omega
      have d5 : ((n < l.length) = True) := by simp; omega
      have ik : IntKind.i64.wrap ((n : Int) + 1) = (n : Int) + 1 := wrapN (by omega) (by omega)
      have hrow := hR.below hB
      obtain ⟨g, cap, hs, -⟩ := hR.shape (by omega)
      injection hs with hs1 _ hs2
      subst hs1 hs2
      have hOk : l[n]? = some l[n] := List.getElem?_eq_getElem hlt
      have hc := fun j u (hu : (cT l[n])[j]? = some u) (hj : j < 3) => hrow.cell (j := n * 3 + j) ((at_cell hOk hj).trans hu)
      replace hi := hi.out
      rw [List.drop_eq_getElem_cons hlt, idxF] at hi
      have hcl := fun W h => hp l[n] (List.getElem_mem hlt) W h
      generalize l[n] = x at *
      have z0 := (hc 0 _ rfl (by omega) : wr.cell? _ = some (Value.int .i64 x.1))
      have z1 := (hc 1 _ rfl (by omega) : wr.cell? _ = some (Value.int .i64 x.2.1))
      have z2 := (hc 2 _ rfl (by omega) : wr.cell? _ = some (Value.int .i64 x.2.2))
      simp only [Nat.add_zero] at z0
      have HR := Aside0.mk hR
      clear hc hOk hrow hR
      unfold encT at hcl
      cases hg : p x
      · simp only [hg] at hcl
        rw [hg, if_neg (by decide)] at hi
        replace hi := Aside0.mk hi
        go_wp2_with (go_at_call 65; (with_reducible refine (hcl _ hB).mono ?_); rintro y w1 ⟨rfl, hb1⟩)
        go_roundw
        case rel => exact ⟨n + 1, by simp, by omega, hB.trans (hb1.mono hB.size), hi⟩
        case measure => simp [intOf]; omega
      · simp only [hg] at hcl
        rw [hg, if_pos rfl] at hi
        replace hi := Aside0.mk hi
        go_wp2_with (go_at_call 65; (with_reducible refine (hcl _ hB).mono ?_); rintro y w1 ⟨rfl, hb1⟩)
        go_ret
        rw [← hi.out]
        exact ⟨rfl, hB.trans (hb1.mono hB.size)⟩
    · have d2 : decide (n < l.length) = false := by simp; omega
      have d5 : ((n < l.length) = False) := by simp; omega
      replace hi := hi.out
      rw [List.drop_eq_nil_of_le (by omega), idxF] at hi
      replace hi := Aside0.mk hi
      go_wp2
      go_ret
      rw [← hi.out]
      exact ⟨rfl, hB⟩
set_option maxHeartbeats 1000000 in
theorem hasTO_call (B : Nat) {t : Bool} {base : Nat} {v : Value} {l : List Tr} {w : World} (hR : LRow t w base 53 3 v l.length (l.flatMap cT)) (hz : l.length ≤ 1099511627776) (p : Tr → Bool) (hp : ∀ x ∈ l, ∀ W, Below w.heap.size w W → Calls Tryz.prog 65 #[encT x, .pointer (some ⟨B, 0, none⟩)] W fun e w' => e = .returned (.bool (p x)) ∧ Below W.heap.size W w') :
    Calls Tryz.prog 83 #[v, .func (.func 65) #[] #[.pointer (some ⟨B, 0, none⟩)]] w fun e w' => e = .returned (.bool (l.any p)) ∧ Below w.heap.size w w' := by
  have hi := idxTO_call B hR hz p hp
  have e := idx_any p l (0, 0, 0)
  generalize idxF p 0 l = q at *
  clear hp hR
  go_enter Tryz.func83, Tryz.ntmps83
  go_wp2_with (go_at_call 134; (with_reducible refine hi.mono ?_); rintro u_ w2 ⟨rfl, hb2⟩)
  go_ret
  rw [← e]
  exact ⟨rfl, hb2⟩
set_option maxRecDepth 100000 in
set_option maxHeartbeats 4000000 in
theorem idxTH_call (B C : Nat) {t : Bool} {base : Nat} {v : Value} {l : List Tr} {w : World} (hR : LRow t w base 53 3 v l.length (l.flatMap cT)) (hz : l.length ≤ 1099511627776) (p : Tr → Bool) (hp : ∀ x ∈ l, ∀ W, Below w.heap.size w W → Calls Tryz.prog 69 #[encT x, .pointer (some ⟨B, 0, none⟩), .pointer (some ⟨C, 0, none⟩)] W fun e w' => e = .returned (.bool (p x)) ∧ Below W.heap.size W w') :
    Calls Tryz.prog 134 #[v, .func (.func 69) #[] #[.pointer (some ⟨B, 0, none⟩), .pointer (some ⟨C, 0, none⟩)]] w fun e w' => e = .returned (.int .i64 (idxF p 0 l)) ∧ Below w.heap.size w w' := by
  obtain ⟨A, c, hv⟩ := hR.any
  subst hv
  go_enter Tryz.func134, Tryz.ntmps134
  go_wp2
  go_loopw [8] (fun x wr => ∃ (n : Nat), x = .int .i64 n ∧ n ≤ l.length ∧ Below w.heap.size w wr ∧ Aside0 (idxF p n (l.drop n) = idxF p 0 l)) (fun x _ => l.length - (intOf x).toNat)
  case atStart => exact ⟨0, rfl, Nat.zero_le _, Below.refl _ _, ⟨rfl⟩⟩
  case round =>
    obtain ⟨n, rfl, hn, hB, hi⟩ := hrel
    by_cases hlt : n < l.length
    · have d2 : decide (n < l.length) = true := by simp; omega
      have d5 : ((n < l.length) = True) := by simp; omega
      have ik : IntKind.i64.wrap ((n : Int) + 1) = (n : Int) + 1 := wrapN (by omega) (by omega)
      have hrow := hR.below hB
      obtain ⟨g, cap, hs, -⟩ := hR.shape (by omega)
      injection hs with hs1 _ hs2
      subst hs1 hs2
      have hOk : l[n]? = some l[n] := List.getElem?_eq_getElem hlt
      have hc := fun j u (hu : (cT l[n])[j]? = some u) (hj : j < 3) => hrow.cell (j := n * 3 + j) ((at_cell hOk hj).trans hu)
      replace hi := hi.out
      rw [List.drop_eq_getElem_cons hlt, idxF] at hi
      have hcl := fun W h => hp l[n] (List.getElem_mem hlt) W h
      generalize l[n] = x at *
      have z0 := (hc 0 _ rfl (by omega) : wr.cell? _ = some (Value.int .i64 x.1))
      have z1 := (hc 1 _ rfl (by omega) : wr.cell? _ = some (Value.int .i64 x.2.1))
      have z2 := (hc 2 _ rfl (by omega) : wr.cell? _ = some (Value.int .i64 x.2.2))
      simp only [Nat.add_zero] at z0
      have HR := Aside0.mk hR
      clear hc hOk hrow hR
      unfold encT at hcl
      cases hg : p x
      · simp only [hg] at hcl
        rw [hg, if_neg (by decide)] at hi
        replace hi := Aside0.mk hi
        go_wp2_with (go_at_call 69; (with_reducible refine (hcl _ hB).mono ?_); rintro y w1 ⟨rfl, hb1⟩)
        go_roundw
        case rel => exact ⟨n + 1, by simp, by omega, hB.trans (hb1.mono hB.size), hi⟩
        case measure => simp [intOf]; omega
      · simp only [hg] at hcl
        rw [hg, if_pos rfl] at hi
        replace hi := Aside0.mk hi
        go_wp2_with (go_at_call 69; (with_reducible refine (hcl _ hB).mono ?_); rintro y w1 ⟨rfl, hb1⟩)
        go_ret
        rw [← hi.out]
        exact ⟨rfl, hB.trans (hb1.mono hB.size)⟩
    · have d2 : decide (n < l.length) = false := by simp; omega
      have d5 : ((n < l.length) = False) := by simp; omega
      replace hi := hi.out
      rw [List.drop_eq_nil_of_le (by omega), idxF] at hi
      replace hi := Aside0.mk hi
      go_wp2
      go_ret
      rw [← hi.out]
      exact ⟨rfl, hB⟩
set_option maxHeartbeats 1000000 in
theorem hasTH_call (B C : Nat) {t : Bool} {base : Nat} {v : Value} {l : List Tr} {w : World} (hR : LRow t w base 53 3 v l.length (l.flatMap cT)) (hz : l.length ≤ 1099511627776) (p : Tr → Bool) (hp : ∀ x ∈ l, ∀ W, Below w.heap.size w W → Calls Tryz.prog 69 #[encT x, .pointer (some ⟨B, 0, none⟩), .pointer (some ⟨C, 0, none⟩)] W fun e w' => e = .returned (.bool (p x)) ∧ Below W.heap.size W w') :
    Calls Tryz.prog 83 #[v, .func (.func 69) #[] #[.pointer (some ⟨B, 0, none⟩), .pointer (some ⟨C, 0, none⟩)]] w fun e w' => e = .returned (.bool (l.any p)) ∧ Below w.heap.size w w' := by
  have hi := idxTH_call B C hR hz p hp
  have e := idx_any p l (0, 0, 0)
  generalize idxF p 0 l = q at *
  clear hp hR
  go_enter Tryz.func83, Tryz.ntmps83
  go_wp2_with (go_at_call 134; (with_reducible refine hi.mono ?_); rintro u_ w2 ⟨rfl, hb2⟩)
  go_ret
  rw [← e]
  exact ⟨rfl, hb2⟩
set_option maxRecDepth 100000 in
set_option maxHeartbeats 4000000 in
theorem idxTS_call (B C : Nat) {t : Bool} {base : Nat} {v : Value} {l : List Tr} {w : World} (hR : LRow t w base 53 3 v l.length (l.flatMap cT)) (hz : l.length ≤ 1099511627776) (p : Tr → Bool) (hp : ∀ x ∈ l, ∀ W, Below w.heap.size w W → Calls Tryz.prog 84 #[encT x, .pointer (some ⟨B, 0, none⟩), .pointer (some ⟨C, 0, none⟩)] W fun e w' => e = .returned (.bool (p x)) ∧ Below W.heap.size W w') :
    Calls Tryz.prog 134 #[v, .func (.func 84) #[] #[.pointer (some ⟨B, 0, none⟩), .pointer (some ⟨C, 0, none⟩)]] w fun e w' => e = .returned (.int .i64 (idxF p 0 l)) ∧ Below w.heap.size w w' := by
  obtain ⟨A, c, hv⟩ := hR.any
  subst hv
  go_enter Tryz.func134, Tryz.ntmps134
  go_wp2
  go_loopw [8] (fun x wr => ∃ (n : Nat), x = .int .i64 n ∧ n ≤ l.length ∧ Below w.heap.size w wr ∧ Aside0 (idxF p n (l.drop n) = idxF p 0 l)) (fun x _ => l.length - (intOf x).toNat)
  case atStart => exact ⟨0, rfl, Nat.zero_le _, Below.refl _ _, ⟨rfl⟩⟩
  case round =>
    obtain ⟨n, rfl, hn, hB, hi⟩ := hrel
    by_cases hlt : n < l.length
    · have d2 : decide (n < l.length) = true := by simp; omega
      have d5 : ((n < l.length) = True) := by simp; omega
      have ik : IntKind.i64.wrap ((n : Int) + 1) = (n : Int) + 1 := wrapN (by omega) (by omega)
      have hrow := hR.below hB
      obtain ⟨g, cap, hs, -⟩ := hR.shape (by omega)
      injection hs with hs1 _ hs2
      subst hs1 hs2
      have hOk : l[n]? = some l[n] := List.getElem?_eq_getElem hlt
      have hc := fun j u (hu : (cT l[n])[j]? = some u) (hj : j < 3) => hrow.cell (j := n * 3 + j) ((at_cell hOk hj).trans hu)
      replace hi := hi.out
      rw [List.drop_eq_getElem_cons hlt, idxF] at hi
      have hcl := fun W h => hp l[n] (List.getElem_mem hlt) W h
      generalize l[n] = x at *
      have z0 := (hc 0 _ rfl (by omega) : wr.cell? _ = some (Value.int .i64 x.1))
      have z1 := (hc 1 _ rfl (by omega) : wr.cell? _ = some (Value.int .i64 x.2.1))
      have z2 := (hc 2 _ rfl (by omega) : wr.cell? _ = some (Value.int .i64 x.2.2))
      simp only [Nat.add_zero] at z0
      have HR := Aside0.mk hR
      clear hc hOk hrow hR
      unfold encT at hcl
      cases hg : p x
      · simp only [hg] at hcl
        rw [hg, if_neg (by decide)] at hi
        replace hi := Aside0.mk hi
        go_wp2_with (go_at_call 84; (with_reducible refine (hcl _ hB).mono ?_); rintro y w1 ⟨rfl, hb1⟩)
        go_roundw
        case rel => exact ⟨n + 1, by simp, by omega, hB.trans (hb1.mono hB.size), hi⟩
        case measure => simp [intOf]; omega
      · simp only [hg] at hcl
        rw [hg, if_pos rfl] at hi
        replace hi := Aside0.mk hi
        go_wp2_with (go_at_call 84; (with_reducible refine (hcl _ hB).mono ?_); rintro y w1 ⟨rfl, hb1⟩)
        go_ret
        rw [← hi.out]
        exact ⟨rfl, hB.trans (hb1.mono hB.size)⟩
    · have d2 : decide (n < l.length) = false := by simp; omega
      have d5 : ((n < l.length) = False) := by simp; omega
      replace hi := hi.out
      rw [List.drop_eq_nil_of_le (by omega), idxF] at hi
      replace hi := Aside0.mk hi
      go_wp2
      go_ret
      rw [← hi.out]
      exact ⟨rfl, hB⟩
set_option maxHeartbeats 1000000 in
theorem hasTS_call (B C : Nat) {t : Bool} {base : Nat} {v : Value} {l : List Tr} {w : World} (hR : LRow t w base 53 3 v l.length (l.flatMap cT)) (hz : l.length ≤ 1099511627776) (p : Tr → Bool) (hp : ∀ x ∈ l, ∀ W, Below w.heap.size w W → Calls Tryz.prog 84 #[encT x, .pointer (some ⟨B, 0, none⟩), .pointer (some ⟨C, 0, none⟩)] W fun e w' => e = .returned (.bool (p x)) ∧ Below W.heap.size W w') :
    Calls Tryz.prog 83 #[v, .func (.func 84) #[] #[.pointer (some ⟨B, 0, none⟩), .pointer (some ⟨C, 0, none⟩)]] w fun e w' => e = .returned (.bool (l.any p)) ∧ Below w.heap.size w w' := by
  have hi := idxTS_call B C hR hz p hp
  have e := idx_any p l (0, 0, 0)
  generalize idxF p 0 l = q at *
  clear hp hR
  go_enter Tryz.func83, Tryz.ntmps83
  go_wp2_with (go_at_call 134; (with_reducible refine hi.mono ?_); rintro u_ w2 ⟨rfl, hb2⟩)
  go_ret
  rw [← e]
  exact ⟨rfl, hb2⟩
end Go.Proofs.YtjiolfpahollkaaGreatDoor.Msh
