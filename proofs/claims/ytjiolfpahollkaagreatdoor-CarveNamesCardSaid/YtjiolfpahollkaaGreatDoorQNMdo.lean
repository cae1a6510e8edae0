/- What the proof needs of Mdo: only what is used is left (wip/tools/prune.py). Conditions stand in each sentence. -/
import Derived.Test.YtjiolfpahollkaaGreatDoorQNMdn
set_option linter.unusedVariables false
set_option linter.unusedSimpArgs false
namespace Go.Proofs.YtjiolfpahollkaaGreatDoor.Adm
end Go.Proofs.YtjiolfpahollkaaGreatDoor.Adm
namespace Go.Proofs.YtjiolfpahollkaaGreatDoor.Kfl
end Go.Proofs.YtjiolfpahollkaaGreatDoor.Kfl
namespace Go.Proofs.YtjiolfpahollkaaGreatDoor.Mp
end Go.Proofs.YtjiolfpahollkaaGreatDoor.Mp
namespace Go.Proofs.YtjiolfpahollkaaGreatDoorW.PrintLast
end Go.Proofs.YtjiolfpahollkaaGreatDoorW.PrintLast
namespace Go.Proofs.YtjiolfpahollkaaGreatDoorW.PrintMore
end Go.Proofs.YtjiolfpahollkaaGreatDoorW.PrintMore
namespace Go.Proofs.YtjiolfpahollkaaGreatDoorW.PrintWords
end Go.Proofs.YtjiolfpahollkaaGreatDoorW.PrintWords
namespace Go.Proofs.YtjiolfpahollkaaGreatDoor.Msh
open Go.RowKit Go.Sort Go.ChangeMaps Go.MapKept Go.Proofs.YtjiolfpahollkaaGreatDoor.Mp Go.Proofs.YtjiolfpahollkaaGreatDoor.Adm Go.Proofs.YtjiolfpahollkaaGreatDoor.Kfl Go.Proofs.YtjiolfpahollkaaGreatDoorW.PrintWords Go.Proofs.YtjiolfpahollkaaGreatDoorW.PrintLast Go.Proofs.YtjiolfpahollkaaGreatDoorW.PrintMore
theorem tr_unique {W : World} {base : Nat} {v : Value} {p q : List Tr} (hp : kTr.R 53 W base anyB v p) (hq : kTr.R 53 W base anyB v q) : p = q := by
  have h1 := tr_row.mp hp
  have h2 := tr_row.mp hq
  have hl : p.length = q.length := h1.len.symm.trans h2.len
  have hf : p.flatMap cT = q.flatMap cT := by
    rcases h1.2 with ⟨rfl, h0⟩ | ⟨g, cap, cur, rfl, a2, a3, a4, a5, a6, a7, -⟩
    · have hq0 : q.length = 0 := by omega
      rw [List.length_eq_zero_iff.mp h0, List.length_eq_zero_iff.mp hq0]
    · rcases h2.2 with ⟨h0, -⟩ | ⟨g', cap', cur', hv, b2, b3, b4, b5, b6, b7, -⟩
      · cases h0
      · injection hv with hv1 hv2 hv3
        injection hv1 with hv1
        injection hv1 with hv1
        subst hv1
        rw [a3] at b3
        injection b3 with b3
        injection b3 with b3
        rw [← a7, ← b7, b3, hl]
  apply List.ext_getElem hl
  intro i hi hi'
  have e0 := at_cell (List.getElem?_eq_getElem hi) (j := 0) (by omega)
  have e1 := at_cell (List.getElem?_eq_getElem hi) (j := 1) (by omega)
  have e2 := at_cell (List.getElem?_eq_getElem hi) (j := 2) (by omega)
  have f0 := at_cell (List.getElem?_eq_getElem hi') (j := 0) (by omega)
  have f1 := at_cell (List.getElem?_eq_getElem hi') (j := 1) (by omega)
  have f2 := at_cell (List.getElem?_eq_getElem hi') (j := 2) (by omega)
  rw [hf] at e0 e1 e2
  have g0 := e0.symm.trans f0
  have g1 := e1.symm.trans f1
  have g2 := e2.symm.trans f2
  simp only [cT, List.getElem?_cons_zero, List.getElem?_cons_succ, Option.some.injEq, Value.int.injEq, true_and] at g0 g1 g2
  exact Prod.ext g0 (Prod.ext g1 g2)
section
variable {w W W1 : World} {base : Nat} {v v1 : Value} {p : List Tr} {hs : List Sl} {L : List (List Tr)}
theorem Pr.keepB (h : Pr W base v hs L) (hm : ∀ k, base ≤ k → k < W.heap.size → W1.heap[k]? = W.heap[k]?) : Pr W1 base v hs L := by
  refine ⟨sl_row.mpr ((sl_row.mp h.row).move fun k hk => ?_), h.len, fun i x p hx hp => tr_row.mpr ((tr_row.mp (h.at_ i x p hx hp)).move fun k hk => ?_)⟩
  · obtain ⟨q1, q2, -⟩ := (sl_row.mp h.row).lt k hk
    exact hm k q1 q2
  · obtain ⟨q1, q2, -⟩ := (tr_row.mp (h.at_ i x p hx hp)).lt k hk
    exact hm k q1 q2
open Classical in
noncomputable def ofKind (ps : List (Sl × List Tr)) (g : List Tr → Bool) (x : Sl) : Bool := decide (∃ q, (x, q) ∈ ps ∧ g q = true)
theorem filter_pair (g : List Tr → Bool) (f : Sl → Bool) : ∀ ps : List (Sl × List Tr), (∀ y ∈ ps, f y.1 = g y.2) → (ps.map (·.1)).filter f = (ps.filter fun y => g y.2).map (·.1) ∧ (ps.map (·.2)).filter g = (ps.filter fun y => g y.2).map (·.2)
  | [], _ => ⟨rfl, rfl⟩
  | y :: ps, h => by
    obtain ⟨i1, i2⟩ := filter_pair g f ps fun z hz => h z (by simp [hz])
    have h0 := h y (by simp)
    cases hg : g y.2 with
    | true => rw [hg] at h0; simp [h0, hg, i1, i2]
    | false => rw [hg] at h0; simp [h0, hg, i1, i2]
theorem Pr.pairs (h : Pr W base v hs L) : ∃ ps : List (Sl × List Tr), hs = ps.map (·.1) ∧ L = ps.map (·.2) ∧ ∀ y ∈ ps, kTr.R 53 W base anyB (encSl y.1) y.2 :=
  ⟨hs.zip L, by rw [List.map_fst_zip (Nat.le_of_eq h.len)], by rw [List.map_snd_zip (Nat.le_of_eq h.len.symm)], fun y hy => by
    obtain ⟨i, hi, rfl⟩ := List.mem_iff_getElem.mp hy
    rw [List.length_zip] at hi
    rw [List.getElem_zip]
    exact h.at_ i _ _ (List.getElem?_eq_getElem (by omega)) (List.getElem?_eq_getElem (by omega))⟩
theorem kind_iff {ps : List (Sl × List Tr)} (hR : ∀ y ∈ ps, kTr.R 53 W base anyB (encSl y.1) y.2) (g : List Tr → Bool) : ∀ y ∈ ps, ofKind ps g y.1 = g y.2 := fun y hy => by
  unfold ofKind
  cases hg : g y.2 with
  | true => simpa using ⟨y.2, hy, hg⟩
  | false =>
    simp only [decide_eq_false_iff_not]
    rintro ⟨q, h1, h2⟩
    have e := tr_unique (hR y hy) (hR (y.1, q) h1)
    simp only at e
    rw [e, h2] at hg
    cases hg
theorem Pr.left {ps : List (Sl × List Tr)} (hR : ∀ y ∈ ps, kTr.R 53 W base anyB (encSl y.1) y.2) (h0 : kSl.R 23 W base anyB v (ps.map (·.1))) (g : List Tr → Bool) (hr : kSl.R 23 W1 base anyB v1 ((ps.map (·.1)).filter fun x => ofKind ps g x)) (hg : W.grownBy W1 v.ownBlock) :
    Pr W1 base v1 ((ps.filter fun y => g y.2).map (·.1)) ((ps.map (·.2)).filter g) := by
  obtain ⟨e1, e2⟩ := filter_pair g (fun x => ofKind ps g x) ps (kind_iff hR g)
  rw [e1] at hr
  rw [e2]
  refine ⟨hr, by simp, fun i x q hx hq => ?_⟩
  rw [List.getElem?_map] at hx hq
  obtain ⟨y, hy, rfl⟩ := Option.map_eq_some_iff.mp hx
  rw [hy] at hq
  injection hq with hq
  subst hq
  have hm := (List.mem_filter.mp (List.mem_of_getElem? hy)).1
  exact tr_grow (hR y hm) h0 hg
end
structure Tk (w : World) (mb : Nat) (l : List S) (O F : List Tr) (M : Nat → Prop) (v : Value) (hs : List Sl) (D : List (List Tr)) (dn : List Tr) (wr : World) : Prop where
  mesh : MeshAt wr mb l (O.filter fun t => decide (t ∉ dn)) F M
  prs : Pr wr w.heap.size v hs D
  fr : Fr M w wr
theorem kill_next {O dn : List Tr} {t : Tr} (m : Mesh O) (ht : t ∈ O) (hd : t ∉ dn) : killO (O.filter fun t => decide (t ∉ dn)) t = O.filter fun s => decide (s ∉ dn ++ [t]) := by
  have m' : Mesh (O.filter fun t => decide (t ∉ dn)) := m.sub (up_filter m.up _) fun s hs => (List.mem_filter.mp hs).1
  have hm : t ∈ O.filter fun t => decide (t ∉ dn) := List.mem_filter.mpr ⟨ht, decide_eq_true hd⟩
  have hb : behind (O.filter fun t => decide (t ∉ dn)) t.1 t.2.1 = some t.2.2 := m'.apx.mpr (by unfold Has; rw [show ((t.1, t.2.1, t.2.2) : Tr) = t from rfl, own_of_lo (m.lo t ht)]; exact hm)
  unfold killO
  rw [if_pos hb, own_of_lo (m.lo t ht), List.filter_filter]
  congr 1
  funext s
  by_cases h1 : s ∈ dn <;> by_cases h2 : s = t <;> simp [h1, h2]
theorem Tk.kill {w wr w' : World} {mb : Nat} {l : List S} {O F : List Tr} {M : Nat → Prop} {v : Value} {hs : List Sl} {D : List (List Tr)} {dn : List Tr} {t : Tr} {e : Ending} (h : Tk w mb l O F M v hs D dn wr) (hM : ∀ k, M k → k < w.heap.size) (m : Mesh O) (ht : t ∈ O) (hd : t ∉ dn)
    (hK : KillPost wr mb l (O.filter fun t => decide (t ∉ dn)) F M t e w') : Tk w mb l O F M v hs D (dn ++ [t]) w' := by
  obtain ⟨-, h1, h2⟩ := hK
  rw [kill_next m ht hd] at h1
  exact ⟨h1, h.prs.keepB fun k hk hl => h2.block k hl fun q => by have := hM k q; omega, h.fr.trans h2 fun _ _ q => q⟩
theorem Tk.below {w wr w' : World} {mb : Nat} {l : List S} {O F : List Tr} {M : Nat → Prop} {v : Value} {hs : List Sl} {D : List (List Tr)} {dn : List Tr} (h : Tk w mb l O F M v hs D dn wr) (hb : Below wr.heap.size wr w') : Tk w mb l O F M v hs D dn w' :=
  ⟨h.mesh.below hb, h.prs.below hb, h.fr.trans (Fr.of_below (M := M) hb) fun _ _ q => q⟩
theorem sl_cell {hs : List Sl} {i : Nat} {x : Sl} (h : hs[i]? = some x) : (hs.flatMap fun x => [encSl x])[i]? = some (encSl x) := by
  have : (hs.flatMap fun x => [encSl x]) = hs.map encSl := by
    clear h
    induction hs with
    | nil => rfl
    | cons a l ih => rw [List.flatMap_cons, ih]; rfl
  rw [this, List.getElem?_map, h]
  rfl
set_option maxHeartbeats 1000000 in
theorem takecO_call (Bk B : Nat) {x : Sl} {p : List Tr} {base : Nat} {W : World} (hk : W.cell? ⟨Bk, 0, none⟩ = some (.func (.func 65) #[] #[.pointer (some ⟨B, 0, none⟩)])) (hR : kTr.R 53 W base anyB (encSl x) p) (hz : p.length ≤ 1099511627776) (kind : Tr → Bool) (hp : ∀ t ∈ p, ∀ W', Below W.heap.size W W' → Calls Tryz.prog 65 #[encT t, .pointer (some ⟨B, 0, none⟩)] W' fun e w' => e = .returned (.bool (kind t)) ∧ Below W'.heap.size W' w') :
    Calls Tryz.prog 120 #[encSl x, .pointer (some ⟨Bk, 0, none⟩)] W fun e w' => e = .returned (.bool (!p.any kind)) ∧ Below W.heap.size W w' := by
  have hi := hasTO_call B (tr_row.mp hR) hz kind hp
  generalize p.any kind = q at *
  clear hp hR
  go_enter Tryz.func120, Tryz.ntmps120
  go_wp2_with (go_at_call 83; (with_reducible refine hi.mono ?_); rintro u_ w2 ⟨rfl, hb2⟩)
  go_ret
  exact ⟨rfl, hb2⟩
set_option maxHeartbeats 1000000 in
theorem takecH_call (Bk B C : Nat) {x : Sl} {p : List Tr} {base : Nat} {W : World} (hk : W.cell? ⟨Bk, 0, none⟩ = some (.func (.func 69) #[] #[.pointer (some ⟨B, 0, none⟩), .pointer (some ⟨C, 0, none⟩)])) (hR : kTr.R 53 W base anyB (encSl x) p) (hz : p.length ≤ 1099511627776) (kind : Tr → Bool) (hp : ∀ t ∈ p, ∀ W', Below W.heap.size W W' → Calls Tryz.prog 69 #[encT t, .pointer (some ⟨B, 0, none⟩), .pointer (some ⟨C, 0, none⟩)] W' fun e w' => e = .returned (.bool (kind t)) ∧ Below W'.heap.size W' w') :
    Calls Tryz.prog 120 #[encSl x, .pointer (some ⟨Bk, 0, none⟩)] W fun e w' => e = .returned (.bool (!p.any kind)) ∧ Below W.heap.size W w' := by
  have hi := hasTH_call B C (tr_row.mp hR) hz kind hp
  generalize p.any kind = q at *
  clear hp hR
  go_enter Tryz.func120, Tryz.ntmps120
  go_wp2_with (go_at_call 83; (with_reducible refine hi.mono ?_); rintro u_ w2 ⟨rfl, hb2⟩)
  go_ret
  exact ⟨rfl, hb2⟩
end Go.Proofs.YtjiolfpahollkaaGreatDoor.Msh
