/- Lemmas of Mdn. Conditions stand in each. -/
import Derived.Test.YtaoichlepfiliaaGreatDoorQXMds
import Derived.Test.YtaoichlepfiliaaGreatDoorQXMco
set_option linter.unusedSimpArgs false
set_option linter.unusedVariables false
section
namespace Go.Proofs.YtaoichlepfiliaaGreatDoor.Msh
open Go.RowKit Go.Sort Go.Proofs.YtaoichlepfiliaaGreatDoor.Adm Go.Proofs.YtaoichlepfiliaaGreatDoor.Kfl Go.Proofs.YtaoichlepfiliaaGreatDoorW.PrintWords Go.Proofs.YtaoichlepfiliaaGreatDoorW.PrintLast
theorem idx_any {α : Type} (p : α → Bool) (l : List α) (z : α) : decide (0 ≤ idxF p 0 l) = l.any p := by
 rcases idxF_spec (p := p) (z := z) l 0 with ⟨h1, h2⟩ | ⟨k, hk, h1, h2, -⟩
 ·rw [h1]
  have : l.any p = false := List.any_eq_false.mpr fun x hx => by rw [h2 x hx]; decide
  rw [this]; rfl
 ·rw [h1]
  have : l.any p = true := List.any_eq_true.mpr ⟨l[k], List.getElem_mem hk, by rw [List.getD_eq_getElem?_getD, List.getElem?_eq_getElem hk] at h2; exact h2⟩
  rw [this]
  exact decide_eq_true (by omega)
set_option maxRecDepth 100000 in
set_option maxHeartbeats 4000000 in
theorem idxTO_call (B : Nat) {t : Bool} {base : Nat} {v : Value} {l : List Tr} {w : World} (hR : LRow t w base 53 3 v l.length (l.flatMap cT)) (hz : l.length ≤ 1099511627776) (p : Tr → Bool) (hp : ∀ x ∈ l, ∀ W, Below w.heap.size w W → Calls Tryz.prog 39 #[encT x, .pointer (some ⟨B, 0, none⟩)] W fun e w' => e = .returned (.bool (p x)) ∧ Below W.heap.size W w') :
 Calls Tryz.prog 89 #[v, .func (.func 39) #[] #[.pointer (some ⟨B, 0, none⟩)]] w fun e w' => e = .returned (.int .i64 (idxF p 0 l)) ∧ Below w.heap.size w w' := by
 obtain ⟨A, c, hv⟩ := hR.any
 subst hv
 go_enter Tryz.func89, Tryz.ntmps89
 go_wp2
 go_loopw [8] (fun x wr => ∃ (n : Nat), x = .int .i64 n ∧ n ≤ l.length ∧ Below w.heap.size w wr ∧ Aside0 (idxF p n (l.drop n) = idxF p 0 l)) (fun x _ => l.length - (intOf x).toNat)
 case atStart => exact ⟨0, rfl, Nat.zero_le _, Below.refl _ _, ⟨rfl⟩⟩
 case round =>
  obtain ⟨n, rfl, hn, hB, hi⟩ := hrel
  by_cases hlt : n < l.length
  ·have d2 : decide (n < l.length) = true := by simp; omega
   have d5 : ((n < l.length) = True) := by simp; omega
   have ik : IntKind.i64.wrap ((n : Int) + 1) = (n : Int) + 1 := wrapN (by omega) (by omega)
   have hrow := hR.below hB
   obtain ⟨g, cap, hs, -⟩ := hR.shape (by omega)
   injection hs with hs1 _ hs2
   subst hs1 hs2
   have hOk : l[n]? = some l[n] := List.getElem?_eq_getElem hlt
   have hc := fun j u (hu : (cT l[n])[j]? = some u) (hj : j < 3) => hrow.cell (j := n * 3 + j) ((at_cell hOk hj).trans hu)
   replace hi := hi.out
   rw [List.drop_eq_getElem_cons hlt, idxF] at hi
   have hcl := fun W h => hp l[n] (List.getElem_mem hlt) W h
   generalize l[n] = x at *
   have z0 := (hc 0 _ rfl (by omega) : wr.cell? _ = some (Value.int .i64 x.1))
   have z1 := (hc 1 _ rfl (by omega) : wr.cell? _ = some (Value.int .i64 x.2.1))
   have z2 := (hc 2 _ rfl (by omega) : wr.cell? _ = some (Value.int .i64 x.2.2))
   simp only [Nat.add_zero] at z0
   have HR := Aside0.mk hR
   clear hc hOk hrow hR
   unfold encT at hcl
   cases hg : p x
   ·simp only [hg] at hcl
    rw [hg, if_neg (by decide)] at hi
    replace hi := Aside0.mk hi
    go_wp2_with (go_at_call 39; (with_reducible refine (hcl _ hB).mono ?_); rintro y w1 ⟨rfl, hb1⟩)
    go_roundw
    case rel => exact ⟨n + 1, by simp, by omega, hB.trans (hb1.mono hB.size), hi⟩
    case measure => simp [intOf]; omega
   ·simp only [hg] at hcl
    rw [hg, if_pos rfl] at hi
    replace hi := Aside0.mk hi
    go_wp2_with (go_at_call 39; (with_reducible refine (hcl _ hB).mono ?_); rintro y w1 ⟨rfl, hb1⟩)
    go_ret
    rw [← hi.out]
    exact ⟨rfl, hB.trans (hb1.mono hB.size)⟩
  ·have d2 : decide (n < l.length) = false := by simp; omega
   have d5 : ((n < l.length) = False) := by simp; omega
   replace hi := hi.out
   rw [List.drop_eq_nil_of_le (by omega), idxF] at hi
   replace hi := Aside0.mk hi
   go_wp2
   go_ret
   rw [← hi.out]
   exact ⟨rfl, hB⟩
set_option maxHeartbeats 1000000 in
theorem hasTO_call (B : Nat) {t : Bool} {base : Nat} {v : Value} {l : List Tr} {w : World} (hR : LRow t w base 53 3 v l.length (l.flatMap cT)) (hz : l.length ≤ 1099511627776) (p : Tr → Bool) (hp : ∀ x ∈ l, ∀ W, Below w.heap.size w W → Calls Tryz.prog 39 #[encT x, .pointer (some ⟨B, 0, none⟩)] W fun e w' => e = .returned (.bool (p x)) ∧ Below W.heap.size W w') :
 Calls Tryz.prog 57 #[v, .func (.func 39) #[] #[.pointer (some ⟨B, 0, none⟩)]] w fun e w' => e = .returned (.bool (l.any p)) ∧ Below w.heap.size w w' := by
 have hi := idxTO_call B hR hz p hp
 have e := idx_any p l (0, 0, 0)
 generalize idxF p 0 l = q at *
 clear hp hR
 go_enter Tryz.func57, Tryz.ntmps57
 go_wp2_with (go_at_call 89; (with_reducible refine hi.mono ?_); rintro u_ w2 ⟨rfl, hb2⟩)
 go_ret
 rw [← e]
 exact ⟨rfl, hb2⟩
set_option maxRecDepth 100000 in
set_option maxHeartbeats 4000000 in
theorem idxTH_call (B C : Nat) {t : Bool} {base : Nat} {v : Value} {l : List Tr} {w : World} (hR : LRow t w base 53 3 v l.length (l.flatMap cT)) (hz : l.length ≤ 1099511627776) (p : Tr → Bool) (hp : ∀ x ∈ l, ∀ W, Below w.heap.size w W → Calls Tryz.prog 43 #[encT x, .pointer (some ⟨B, 0, none⟩), .pointer (some ⟨C, 0, none⟩)] W fun e w' => e = .returned (.bool (p x)) ∧ Below W.heap.size W w') :
 Calls Tryz.prog 89 #[v, .func (.func 43) #[] #[.pointer (some ⟨B, 0, none⟩), .pointer (some ⟨C, 0, none⟩)]] w fun e w' => e = .returned (.int .i64 (idxF p 0 l)) ∧ Below w.heap.size w w' := by
 obtain ⟨A, c, hv⟩ := hR.any
 subst hv
 go_enter Tryz.func89, Tryz.ntmps89
 go_wp2
 go_loopw [8] (fun x wr => ∃ (n : Nat), x = .int .i64 n ∧ n ≤ l.length ∧ Below w.heap.size w wr ∧ Aside0 (idxF p n (l.drop n) = idxF p 0 l)) (fun x _ => l.length - (intOf x).toNat)
 case atStart => exact ⟨0, rfl, Nat.zero_le _, Below.refl _ _, ⟨rfl⟩⟩
 case round =>
  obtain ⟨n, rfl, hn, hB, hi⟩ := hrel
  by_cases hlt : n < l.length
  ·have d2 : decide (n < l.length) = true := by simp; omega
   have d5 : ((n < l.length) = True) := by simp; omega
   have ik : IntKind.i64.wrap ((n : Int) + 1) = (n : Int) + 1 := wrapN (by omega) (by omega)
   have hrow := hR.below hB
   obtain ⟨g, cap, hs, -⟩ := hR.shape (by omega)
   injection hs with hs1 _ hs2
   subst hs1 hs2
   have hOk : l[n]? = some l[n] := List.getElem?_eq_getElem hlt
   have hc := fun j u (hu : (cT l[n])[j]? = some u) (hj : j < 3) => hrow.cell (j := n * 3 + j) ((at_cell hOk hj).trans hu)
   replace hi := hi.out
   rw [List.drop_eq_getElem_cons hlt, idxF] at hi
   have hcl := fun W h => hp l[n] (List.getElem_mem hlt) W h
   generalize l[n] = x at *
   have z0 := (hc 0 _ rfl (by omega) : wr.cell? _ = some (Value.int .i64 x.1))
   have z1 := (hc 1 _ rfl (by omega) : wr.cell? _ = some (Value.int .i64 x.2.1))
   have z2 := (hc 2 _ rfl (by omega) : wr.cell? _ = some (Value.int .i64 x.2.2))
   simp only [Nat.add_zero] at z0
   have HR := Aside0.mk hR
   clear hc hOk hrow hR
   unfold encT at hcl
   cases hg : p x
   ·simp only [hg] at hcl
    rw [hg, if_neg (by decide)] at hi
    replace hi := Aside0.mk hi
    go_wp2_with (go_at_call 43; (with_reducible refine (hcl _ hB).mono ?_); rintro y w1 ⟨rfl, hb1⟩)
    go_roundw
    case rel => exact ⟨n + 1, by simp, by omega, hB.trans (hb1.mono hB.size), hi⟩
    case measure => simp [intOf]; omega
   ·simp only [hg] at hcl
    rw [hg, if_pos rfl] at hi
    replace hi := Aside0.mk hi
    go_wp2_with (go_at_call 43; (with_reducible refine (hcl _ hB).mono ?_); rintro y w1 ⟨rfl, hb1⟩)
    go_ret
    rw [← hi.out]
    exact ⟨rfl, hB.trans (hb1.mono hB.size)⟩
  ·have d2 : decide (n < l.length) = false := by simp; omega
   have d5 : ((n < l.length) = False) := by simp; omega
   replace hi := hi.out
   rw [List.drop_eq_nil_of_le (by omega), idxF] at hi
   replace hi := Aside0.mk hi
   go_wp2
   go_ret
   rw [← hi.out]
   exact ⟨rfl, hB⟩
set_option maxHeartbeats 1000000 in
theorem hasTH_call (B C : Nat) {t : Bool} {base : Nat} {v : Value} {l : List Tr} {w : World} (hR : LRow t w base 53 3 v l.length (l.flatMap cT)) (hz : l.length ≤ 1099511627776) (p : Tr → Bool) (hp : ∀ x ∈ l, ∀ W, Below w.heap.size w W → Calls Tryz.prog 43 #[encT x, .pointer (some ⟨B, 0, none⟩), .pointer (some ⟨C, 0, none⟩)] W fun e w' => e = .returned (.bool (p x)) ∧ Below W.heap.size W w') :
 Calls Tryz.prog 57 #[v, .func (.func 43) #[] #[.pointer (some ⟨B, 0, none⟩), .pointer (some ⟨C, 0, none⟩)]] w fun e w' => e = .returned (.bool (l.any p)) ∧ Below w.heap.size w w' := by
 have hi := idxTH_call B C hR hz p hp
 have e := idx_any p l (0, 0, 0)
 generalize idxF p 0 l = q at *
 clear hp hR
 go_enter Tryz.func57, Tryz.ntmps57
 go_wp2_with (go_at_call 89; (with_reducible refine hi.mono ?_); rintro u_ w2 ⟨rfl, hb2⟩)
 go_ret
 rw [← e]
 exact ⟨rfl, hb2⟩
set_option maxRecDepth 100000 in
set_option maxHeartbeats 4000000 in
theorem idxTS_call (B C : Nat) {t : Bool} {base : Nat} {v : Value} {l : List Tr} {w : World} (hR : LRow t w base 53 3 v l.length (l.flatMap cT)) (hz : l.length ≤ 1099511627776) (p : Tr → Bool) (hp : ∀ x ∈ l, ∀ W, Below w.heap.size w W → Calls Tryz.prog 58 #[encT x, .pointer (some ⟨B, 0, none⟩), .pointer (some ⟨C, 0, none⟩)] W fun e w' => e = .returned (.bool (p x)) ∧ Below W.heap.size W w') :
 Calls Tryz.prog 89 #[v, .func (.func 58) #[] #[.pointer (some ⟨B, 0, none⟩), .pointer (some ⟨C, 0, none⟩)]] w fun e w' => e = .returned (.int .i64 (idxF p 0 l)) ∧ Below w.heap.size w w' := by
 obtain ⟨A, c, hv⟩ := hR.any
 subst hv
 go_enter Tryz.func89, Tryz.ntmps89
 go_wp2
 go_loopw [8] (fun x wr => ∃ (n : Nat), x = .int .i64 n ∧ n ≤ l.length ∧ Below w.heap.size w wr ∧ Aside0 (idxF p n (l.drop n) = idxF p 0 l)) (fun x _ => l.length - (intOf x).toNat)
 case atStart => exact ⟨0, rfl, Nat.zero_le _, Below.refl _ _, ⟨rfl⟩⟩
 case round =>
  obtain ⟨n, rfl, hn, hB, hi⟩ := hrel
  by_cases hlt : n < l.length
  ·have d2 : decide (n < l.length) = true := by simp; omega
   have d5 : ((n < l.length) = True) := by simp; omega
   have ik : IntKind.i64.wrap ((n : Int) + 1) = (n : Int) + 1 := wrapN (by omega) (by omega)
   have hrow := hR.below hB
   obtain ⟨g, cap, hs, -⟩ := hR.shape (by omega)
   injection hs with hs1 _ hs2
   subst hs1 hs2
   have hOk : l[n]? = some l[n] := List.getElem?_eq_getElem hlt
   have hc := fun j u (hu : (cT l[n])[j]? = some u) (hj : j < 3) => hrow.cell (j := n * 3 + j) ((at_cell hOk hj).trans hu)
   replace hi := hi.out
   rw [List.drop_eq_getElem_cons hlt, idxF] at hi
   have hcl := fun W h => hp l[n] (List.getElem_mem hlt) W h
   generalize l[n] = x at *
   have z0 := (hc 0 _ rfl (by omega) : wr.cell? _ = some (Value.int .i64 x.1))
   have z1 := (hc 1 _ rfl (by omega) : wr.cell? _ = some (Value.int .i64 x.2.1))
   have z2 := (hc 2 _ rfl (by omega) : wr.cell? _ = some (Value.int .i64 x.2.2))
   simp only [Nat.add_zero] at z0
   have HR := Aside0.mk hR
   clear hc hOk hrow hR
   unfold encT at hcl
   cases hg : p x
   ·simp only [hg] at hcl
    rw [hg, if_neg (by decide)] at hi
    replace hi := Aside0.mk hi
    go_wp2_with (go_at_call 58; (with_reducible refine (hcl _ hB).mono ?_); rintro y w1 ⟨rfl, hb1⟩)
    go_roundw
    case rel => exact ⟨n + 1, by simp, by omega, hB.trans (hb1.mono hB.size), hi⟩
    case measure => simp [intOf]; omega
   ·simp only [hg] at hcl
    rw [hg, if_pos rfl] at hi
    replace hi := Aside0.mk hi
    go_wp2_with (go_at_call 58; (with_reducible refine (hcl _ hB).mono ?_); rintro y w1 ⟨rfl, hb1⟩)
    go_ret
    rw [← hi.out]
    exact ⟨rfl, hB.trans (hb1.mono hB.size)⟩
  ·have d2 : decide (n < l.length) = false := by simp; omega
   have d5 : ((n < l.length) = False) := by simp; omega
   replace hi := hi.out
   rw [List.drop_eq_nil_of_le (by omega), idxF] at hi
   replace hi := Aside0.mk hi
   go_wp2
   go_ret
   rw [← hi.out]
   exact ⟨rfl, hB⟩
set_option maxHeartbeats 1000000 in
theorem hasTS_call (B C : Nat) {t : Bool} {base : Nat} {v : Value} {l : List Tr} {w : World} (hR : LRow t w base 53 3 v l.length (l.flatMap cT)) (hz : l.length ≤ 1099511627776) (p : Tr → Bool) (hp : ∀ x ∈ l, ∀ W, Below w.heap.size w W → Calls Tryz.prog 58 #[encT x, .pointer (some ⟨B, 0, none⟩), .pointer (some ⟨C, 0, none⟩)] W fun e w' => e = .returned (.bool (p x)) ∧ Below W.heap.size W w') :
 Calls Tryz.prog 57 #[v, .func (.func 58) #[] #[.pointer (some ⟨B, 0, none⟩), .pointer (some ⟨C, 0, none⟩)]] w fun e w' => e = .returned (.bool (l.any p)) ∧ Below w.heap.size w w' := by
 have hi := idxTS_call B C hR hz p hp
 have e := idx_any p l (0, 0, 0)
 generalize idxF p 0 l = q at *
 clear hp hR
 go_enter Tryz.func57, Tryz.ntmps57
 go_wp2_with (go_at_call 89; (with_reducible refine hi.mono ?_); rintro u_ w2 ⟨rfl, hb2⟩)
 go_ret
 rw [← e]
 exact ⟨rfl, hb2⟩
end Go.Proofs.YtaoichlepfiliaaGreatDoor.Msh
end
section
namespace Go.Proofs.YtaoichlepfiliaaGreatDoor.Msh
open Go.RowKit Go.Sort Go.ChangeMaps Go.MapKept Go.Proofs.YtaoichlepfiliaaGreatDoor.Mp Go.Proofs.YtaoichlepfiliaaGreatDoor.Adm Go.Proofs.YtaoichlepfiliaaGreatDoor.Kfl Go.Proofs.YtaoichlepfiliaaGreatDoorW.PrintWords Go.Proofs.YtaoichlepfiliaaGreatDoorW.PrintLast
theorem tr_unique {W : World} {base : Nat} {v : Value} {p q : List Tr} (hp : kTr.R 53 W base anyB v p) (hq : kTr.R 53 W base anyB v q) : p = q := by
 have h1 := tr_row.mp hp
 have h2 := tr_row.mp hq
 have hl : p.length = q.length := h1.len.symm.trans h2.len
 have hf : p.flatMap cT = q.flatMap cT := by
  rcases h1.2 with ⟨rfl, h0⟩ | ⟨g, cap, cur, rfl, a2, a3, a4, a5, a6, a7, -⟩
  ·have hq0 : q.length = 0 := by omega
   rw [List.length_eq_zero_iff.mp h0, List.length_eq_zero_iff.mp hq0]
  ·rcases h2.2 with ⟨h0, -⟩ | ⟨g', cap', cur', hv, b2, b3, b4, b5, b6, b7, -⟩
   ·cases h0
   ·injection hv with hv1 hv2 hv3
    injection hv1 with hv1
    injection hv1 with hv1
    subst hv1
    rw [a3] at b3
    injection b3 with b3
    injection b3 with b3
    rw [← a7, ← b7, b3, hl]
 apply List.ext_getElem hl
 intro i hi hi'
 have e0 := at_cell (List.getElem?_eq_getElem hi) (j := 0) (by omega)
 have e1 := at_cell (List.getElem?_eq_getElem hi) (j := 1) (by omega)
 have e2 := at_cell (List.getElem?_eq_getElem hi) (j := 2) (by omega)
 have f0 := at_cell (List.getElem?_eq_getElem hi') (j := 0) (by omega)
 have f1 := at_cell (List.getElem?_eq_getElem hi') (j := 1) (by omega)
 have f2 := at_cell (List.getElem?_eq_getElem hi') (j := 2) (by omega)
 rw [hf] at e0 e1 e2
 have g0 := e0.symm.trans f0
 have g1 := e1.symm.trans f1
 have g2 := e2.symm.trans f2
 simp only [cT, List.getElem?_cons_zero, List.getElem?_cons_succ, Option.some.injEq, Value.int.injEq, true_and] at g0 g1 g2
 exact Prod.ext g0 (Prod.ext g1 g2)
section
variable {w W W1 : World} {base : Nat} {v v1 : Value} {p : List Tr} {hs : List Sl} {L : List (List Tr)}
theorem Pr.keepB (h : Pr W base v hs L) (hm : ∀ k, base ≤ k → k < W.heap.size → W1.heap[k]? = W.heap[k]?) : Pr W1 base v hs L := by
 refine ⟨sl_row.mpr ((sl_row.mp h.row).move fun k hk => ?_), h.len, fun i x p hx hp => tr_row.mpr ((tr_row.mp (h.at_ i x p hx hp)).move fun k hk => ?_)⟩
 ·obtain ⟨q1, q2, -⟩ := (sl_row.mp h.row).lt k hk
  exact hm k q1 q2
 ·obtain ⟨q1, q2, -⟩ := (tr_row.mp (h.at_ i x p hx hp)).lt k hk
  exact hm k q1 q2
open Classical in
noncomputable def ofKind (ps : List (Sl × List Tr)) (g : List Tr → Bool) (x : Sl) : Bool := decide (∃ q, (x, q) ∈ ps ∧ g q = true)
theorem filter_pair (g : List Tr → Bool) (f : Sl → Bool) : ∀ ps : List (Sl × List Tr), (∀ y ∈ ps, f y.1 = g y.2) → (ps.map (·.1)).filter f = (ps.filter fun y => g y.2).map (·.1) ∧ (ps.map (·.2)).filter g = (ps.filter fun y => g y.2).map (·.2)
 | [], _ => ⟨rfl, rfl⟩
 | y :: ps, h => by
  obtain ⟨i1, i2⟩ := filter_pair g f ps fun z hz => h z (by simp [hz])
  have h0 := h y (by simp)
  cases hg : g y.2 with
  | true => rw [hg] at h0; simp [h0, hg, i1, i2]
  | false => rw [hg] at h0; simp [h0, hg, i1, i2]
theorem Pr.pairs (h : Pr W base v hs L) : ∃ ps : List (Sl × List Tr), hs = ps.map (·.1) ∧ L = ps.map (·.2) ∧ ∀ y ∈ ps, kTr.R 53 W base anyB (encSl y.1) y.2 :=
 ⟨hs.zip L, by rw [List.map_fst_zip (Nat.le_of_eq h.len)], by rw [List.map_snd_zip (Nat.le_of_eq h.len.symm)], fun y hy => by
  obtain ⟨i, hi, rfl⟩ := List.mem_iff_getElem.mp hy
  rw [List.length_zip] at hi
  rw [List.getElem_zip]
  exact h.at_ i _ _ (List.getElem?_eq_getElem (by omega)) (List.getElem?_eq_getElem (by omega))⟩
theorem kind_iff {ps : List (Sl × List Tr)} (hR : ∀ y ∈ ps, kTr.R 53 W base anyB (encSl y.1) y.2) (g : List Tr → Bool) : ∀ y ∈ ps, ofKind ps g y.1 = g y.2 := fun y hy => by
 unfold ofKind
 cases hg : g y.2 with
 | true => simpa using ⟨y.2, hy, hg⟩
 | false =>
  simp only [decide_eq_false_iff_not]
  rintro ⟨q, h1, h2⟩
  have e := tr_unique (hR y hy) (hR (y.1, q) h1)
  simp only at e
  rw [e, h2] at hg
  cases hg
theorem Pr.left {ps : List (Sl × List Tr)} (hR : ∀ y ∈ ps, kTr.R 53 W base anyB (encSl y.1) y.2) (h0 : kSl.R 23 W base anyB v (ps.map (·.1))) (g : List Tr → Bool) (hr : kSl.R 23 W1 base anyB v1 ((ps.map (·.1)).filter fun x => ofKind ps g x)) (hg : W.grownBy W1 v.ownBlock) :
 Pr W1 base v1 ((ps.filter fun y => g y.2).map (·.1)) ((ps.map (·.2)).filter g) := by
 obtain ⟨e1, e2⟩ := filter_pair g (fun x => ofKind ps g x) ps (kind_iff hR g)
 rw [e1] at hr
 rw [e2]
 refine ⟨hr, by simp, fun i x q hx hq => ?_⟩
 rw [List.getElem?_map] at hx hq
 obtain ⟨y, hy, rfl⟩ := Option.map_eq_some_iff.mp hx
 rw [hy] at hq
 injection hq with hq
 subst hq
 have hm := (List.mem_filter.mp (List.mem_of_getElem? hy)).1
 exact tr_grow (hR y hm) h0 hg
end
structure Tk (w : World) (mb : Nat) (l : List S) (O F : List Tr) (M : Nat → Prop) (v : Value) (hs : List Sl) (D : List (List Tr)) (dn : List Tr) (wr : World) : Prop where
 mesh : MeshAt wr mb l (O.filter fun t => decide (t ∉ dn)) F M
 prs : Pr wr w.heap.size v hs D
 fr : Fr M w wr
theorem kill_next {O dn : List Tr} {t : Tr} (m : Mesh O) (ht : t ∈ O) (hd : t ∉ dn) : killO (O.filter fun t => decide (t ∉ dn)) t = O.filter fun s => decide (s ∉ dn ++ [t]) := by
 have m' : Mesh (O.filter fun t => decide (t ∉ dn)) := m.sub (up_filter m.up _) fun s hs => (List.mem_filter.mp hs).1
 have hm : t ∈ O.filter fun t => decide (t ∉ dn) := List.mem_filter.mpr ⟨ht, decide_eq_true hd⟩
 have hb : behind (O.filter fun t => decide (t ∉ dn)) t.1 t.2.1 = some t.2.2 := m'.apx.mpr (by unfold Has; rw [show ((t.1, t.2.1, t.2.2) : Tr) = t from rfl, own_of_lo (m.lo t ht)]; exact hm)
 unfold killO
 rw [if_pos hb, own_of_lo (m.lo t ht), List.filter_filter]
 congr 1
 funext s
 by_cases h1 : s ∈ dn <;> by_cases h2 : s = t <;> simp [h1, h2]
theorem Tk.kill {w wr w' : World} {mb : Nat} {l : List S} {O F : List Tr} {M : Nat → Prop} {v : Value} {hs : List Sl} {D : List (List Tr)} {dn : List Tr} {t : Tr} {e : Ending} (h : Tk w mb l O F M v hs D dn wr) (hM : ∀ k, M k → k < w.heap.size) (m : Mesh O) (ht : t ∈ O) (hd : t ∉ dn)
 (hK : KillPost wr mb l (O.filter fun t => decide (t ∉ dn)) F M t e w') : Tk w mb l O F M v hs D (dn ++ [t]) w' := by
 obtain ⟨-, h1, h2⟩ := hK
 rw [kill_next m ht hd] at h1
 exact ⟨h1, h.prs.keepB fun k hk hl => h2.block k hl fun q => by have := hM k q; omega, h.fr.trans h2 fun _ _ q => q⟩
theorem Tk.below {w wr w' : World} {mb : Nat} {l : List S} {O F : List Tr} {M : Nat → Prop} {v : Value} {hs : List Sl} {D : List (List Tr)} {dn : List Tr} (h : Tk w mb l O F M v hs D dn wr) (hb : Below wr.heap.size wr w') : Tk w mb l O F M v hs D dn w' :=
 ⟨h.mesh.below hb, h.prs.below hb, h.fr.trans (Fr.of_below (M := M) hb) fun _ _ q => q⟩
theorem sl_cell {hs : List Sl} {i : Nat} {x : Sl} (h : hs[i]? = some x) : (hs.flatMap fun x => [encSl x])[i]? = some (encSl x) := by
 have : (hs.flatMap fun x => [encSl x]) = hs.map encSl := by
  clear h
  induction hs with
  | nil => rfl
  | cons a l ih => rw [List.flatMap_cons, ih]; rfl
 rw [this, List.getElem?_map, h]
 rfl
set_option maxHeartbeats 1000000 in
theorem takecO_call (Bk B : Nat) {x : Sl} {p : List Tr} {base : Nat} {W : World} (hk : W.cell? ⟨Bk, 0, none⟩ = some (.func (.func 39) #[] #[.pointer (some ⟨B, 0, none⟩)])) (hR : kTr.R 53 W base anyB (encSl x) p) (hz : p.length ≤ 1099511627776) (kind : Tr → Bool) (hp : ∀ t ∈ p, ∀ W', Below W.heap.size W W' → Calls Tryz.prog 39 #[encT t, .pointer (some ⟨B, 0, none⟩)] W' fun e w' => e = .returned (.bool (kind t)) ∧ Below W'.heap.size W' w') :
 Calls Tryz.prog 74 #[encSl x, .pointer (some ⟨Bk, 0, none⟩)] W fun e w' => e = .returned (.bool (!p.any kind)) ∧ Below W.heap.size W w' := by
 have hi := hasTO_call B (tr_row.mp hR) hz kind hp
 generalize p.any kind = q at *
 clear hp hR
 go_enter Tryz.func74, Tryz.ntmps74
 go_wp2_with (go_at_call 57; (with_reducible refine hi.mono ?_); rintro u_ w2 ⟨rfl, hb2⟩)
 go_ret
 exact ⟨rfl, hb2⟩
set_option maxHeartbeats 1000000 in
theorem takecH_call (Bk B C : Nat) {x : Sl} {p : List Tr} {base : Nat} {W : World} (hk : W.cell? ⟨Bk, 0, none⟩ = some (.func (.func 43) #[] #[.pointer (some ⟨B, 0, none⟩), .pointer (some ⟨C, 0, none⟩)])) (hR : kTr.R 53 W base anyB (encSl x) p) (hz : p.length ≤ 1099511627776) (kind : Tr → Bool) (hp : ∀ t ∈ p, ∀ W', Below W.heap.size W W' → Calls Tryz.prog 43 #[encT t, .pointer (some ⟨B, 0, none⟩), .pointer (some ⟨C, 0, none⟩)] W' fun e w' => e = .returned (.bool (kind t)) ∧ Below W'.heap.size W' w') :
 Calls Tryz.prog 74 #[encSl x, .pointer (some ⟨Bk, 0, none⟩)] W fun e w' => e = .returned (.bool (!p.any kind)) ∧ Below W.heap.size W w' := by
 have hi := hasTH_call B C (tr_row.mp hR) hz kind hp
 generalize p.any kind = q at *
 clear hp hR
 go_enter Tryz.func74, Tryz.ntmps74
 go_wp2_with (go_at_call 57; (with_reducible refine hi.mono ?_); rintro u_ w2 ⟨rfl, hb2⟩)
 go_ret
 exact ⟨rfl, hb2⟩
end Go.Proofs.YtaoichlepfiliaaGreatDoor.Msh
end
