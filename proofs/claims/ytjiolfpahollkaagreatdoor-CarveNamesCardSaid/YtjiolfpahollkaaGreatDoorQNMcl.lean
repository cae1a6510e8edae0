/- What the proof needs of Mcl: only what is used is left (wip/tools/prune.py). Conditions stand in each sentence. -/
import Derived.Test.YtjiolfpahollkaaGreatDoorQNMck
import Derived.Shelf.SlSortCmp.NoneTotal
import Derived.Lib.Hide
import Derived.Test.YtjiolfpahollkaaGreatDoorQNWFootNe
section
set_option linter.unusedVariables false
set_option linter.unusedSimpArgs false
namespace Go.Proofs.YtjiolfpahollkaaGreatDoor.Adm
end Go.Proofs.YtjiolfpahollkaaGreatDoor.Adm
namespace Go.Proofs.YtjiolfpahollkaaGreatDoor.E
end Go.Proofs.YtjiolfpahollkaaGreatDoor.E
namespace Go.Proofs.YtjiolfpahollkaaGreatDoor.Mp
end Go.Proofs.YtjiolfpahollkaaGreatDoor.Mp
namespace Go.Proofs.YtjiolfpahollkaaGreatDoor.R
end Go.Proofs.YtjiolfpahollkaaGreatDoor.R
namespace Go.Proofs.YtjiolfpahollkaaGreatDoorW.PrintLast
end Go.Proofs.YtjiolfpahollkaaGreatDoorW.PrintLast
namespace Go.Proofs.YtjiolfpahollkaaGreatDoorW.PrintMore
end Go.Proofs.YtjiolfpahollkaaGreatDoorW.PrintMore
namespace Go.Proofs.YtjiolfpahollkaaGreatDoorW.PrintWords
end Go.Proofs.YtjiolfpahollkaaGreatDoorW.PrintWords
namespace Go.Proofs.YtjiolfpahollkaaGreatDoor.Msh
open Go.RowKit Go.Sort Go.ChangeMaps Go.MapKept Go.Proofs.YtjiolfpahollkaaGreatDoor.Mp Go.Proofs.YtjiolfpahollkaaGreatDoor.Adm Go.Proofs.YtjiolfpahollkaaGreatDoor.R Go.Proofs.YtjiolfpahollkaaGreatDoor.E Go.Proofs.YtjiolfpahollkaaGreatDoorW.PrintWords Go.Proofs.YtjiolfpahollkaaGreatDoorW.PrintLast Go.Proofs.YtjiolfpahollkaaGreatDoorW.PrintMore
def sgT (l : List S) (t : Tr) : Int := sgnS (ptO l t.1) (ptO l t.2.1) (ptO l t.2.2)
def makeE (l : List S) (O : List Tr) (t : Tr) : Int := if hasN l t.1 = false ∨ hasN l t.2.1 = false ∨ hasN l t.2.2 = false then 11 else if sgT l t ≤ 0 then 14 else if Free O t then 0 else 14
def makeO (l : List S) (O : List Tr) (t : Tr) : List Tr := if makeE l O t = 0 then put (own t) O else O
theorem ptO_in {l : List S} {i : Int} (h : hasN l i = true) : ptO l i = rd_T68 l i ∧ 0 ≤ i ∧ i < l.length ∧ ptO l i ∈ l := by
  unfold hasN at h
  rw [decide_eq_true_iff] at h
  unfold ptO
  rw [if_pos h]
  exact ⟨rfl, h.1, h.2, by have := rd_at (l := l) (n := i.toNat) (by omega); rwa [Int.toNat_of_nonneg h.1] at this⟩
section
variable {w : World} {mb : Nat} {l : List S} {O F : List Tr} {M : Nat → Prop} {a b c : Int}
def MakePost (w : World) (mb : Nat) (l : List S) (O F : List Tr) (M : Nat → Prop) (t : Tr) (e : Ending) (w' : World) : Prop :=
  e = .returned (.int .i64 (makeE l O t)) ∧ ∃ M', MeshAt w' mb l (makeO l O t) F M' ∧ Fr M w w' ∧ (∀ k, M k → M' k) ∧ ∀ k, M' k → M k ∨ w.heap.size ≤ k
theorem make_no {w' : World} {t : Tr} {e : Int} (h : MeshAt w mb l O F M) (he : makeE l O t = e) (h0 : e ≠ 0) (hb : Below w.heap.size w w') : MakePost w mb l O F M t (.returned (.int .i64 e)) w' := by
  subst he
  refine ⟨rfl, M, ?_, Fr.of_below hb, fun _ h => h, fun _ h => .inl h⟩
  unfold makeO
  rw [if_neg h0]
  exact h.below hb
set_option maxRecDepth 100000 in
set_option maxHeartbeats 4000000 in
theorem make_range (h : MeshAt w mb l O F M) (hr : hasN l a = false ∨ hasN l b = false ∨ hasN l c = false) : Calls Tryz.prog 61 #[ptr mb, .int .i64 a, .int .i64 b, .int .i64 c] w (MakePost w mb l O F M (a, b, c)) := by
  have e1 : makeE l O (a, b, c) = 11 := by unfold makeE; rw [if_pos hr]
  have HH := Aside0.mk (And.intro h e1)
  have ha := has_call h a
  have hb := has_call h b
  have hc := has_call h c
  have e0 : ∀ i, decide (0 ≤ i ∧ i < (l.length : Int)) = hasN l i := fun _ => rfl
  rw [e0] at ha hb hc
  clear h e1 e0
  cases q1 : hasN l a with
  | false =>
    rw [q1] at ha
    clear hr q1
    go_enter Tryz.func61, Tryz.ntmps61
    go_wp2_with (go_at_call 105; (with_reducible refine ha.mono ?_); rintro u_ w5 ⟨rfl, rfl⟩)
    go_ret
    exact make_no HH.out.1 HH.out.2 (by decide) (Below.refl _ _)
  | true =>
    rw [q1] at ha hr
    cases q2 : hasN l b with
    | false =>
      rw [q2] at hb
      clear hr q1 q2
      go_enter Tryz.func61, Tryz.ntmps61
      go_wp2_with (first | (go_at_call 105; (with_reducible refine ha.mono ?_); rintro u_ w5 ⟨rfl, rfl⟩) | (go_at_call 105; (with_reducible refine hb.mono ?_); rintro u_ w5 ⟨rfl, rfl⟩))
      go_ret
      exact make_no HH.out.1 HH.out.2 (by decide) (Below.refl _ _)
    | true =>
      rw [q2] at hb hr
      have q3 : hasN l c = false := by simpa using hr
      rw [q3] at hc
      clear hr q1 q2 q3
      go_enter Tryz.func61, Tryz.ntmps61
      go_wp2_with (first | (go_at_call 105; (with_reducible refine ha.mono ?_); rintro u_ w5 ⟨rfl, rfl⟩) | (go_at_call 105; (with_reducible refine hb.mono ?_); rintro u_ w5 ⟨rfl, rfl⟩) | (go_at_call 105; (with_reducible refine hc.mono ?_); rintro u_ w5 ⟨rfl, rfl⟩))
      go_ret
      exact make_no HH.out.1 HH.out.2 (by decide) (Below.refl _ _)
theorem heldB {w W : World} {L : World → Prop} (hL : Aside0 (∀ W, Below w.heap.size w W → L W)) (h : Below w.heap.size w W) : L W := hL.out W h
set_option maxRecDepth 100000 in
set_option maxHeartbeats 4000000 in
theorem make_flat (h : MeshAt w mb l O F M) (ha : hasN l a = true) (hb : hasN l b = true) (hc : hasN l c = true) (hs : sgT l (a, b, c) ≤ 0) : Calls Tryz.prog 61 #[ptr mb, .int .i64 a, .int .i64 b, .int .i64 c] w (MakePost w mb l O F M (a, b, c)) := by
  have e1 : makeE l O (a, b, c) = 14 := by
    unfold makeE
    rw [if_neg (by simp [ha, hb, hc]), if_pos hs]
  have HH := Aside0.mk (And.intro h e1)
  have ca := has_call h a
  have cb := has_call h b
  have cc := has_call h c
  have e0 : ∀ i, decide (0 ≤ i ∧ i < (l.length : Int)) = hasN l i := fun _ => rfl
  rw [e0] at ca cb cc
  rw [ha] at ca
  rw [hb] at cb
  rw [hc] at cc
  obtain ⟨pa, a0, a1, ma⟩ := ptO_in ha
  obtain ⟨pb, b0, b1, mb'⟩ := ptO_in hb
  obtain ⟨pc, c0, c1, mc⟩ := ptO_in hc
  obtain ⟨A, cap, z0, hcap, hC⟩ := h.cell0
  have hgp : ∀ x ∈ l, gp x = true := by obtain ⟨_, _, _, _, _, _, _, _, q⟩ := h; exact q.good.1
  obtain ⟨ad, rfl, xa0, xa1⟩ := at_T68 hC a a0 a1
  obtain ⟨ad2, e2, xb0, xb1⟩ := at_T68 hC b b0 b1
  injection e2 with e2
  subst e2
  obtain ⟨ad3, e3, xc0, xc1⟩ := at_T68 hC c c0 c1
  injection e3 with e3
  subst e3
  have hsg := fun W => sign_any (hgp _ ma) (hgp _ mb') (hgp _ mc) W
  unfold sgT at hs
  simp only at hs
  rw [pa, pb, pc] at hsg hs
  generalize sgnS (rd_T68 l a) (rd_T68 l b) (rd_T68 l c) = sg at *
  have d0 : decide (sg ≤ 0) = true := decide_eq_true hs
  have da : decide (a < (l.length : Int)) = true := decide_eq_true a1
  have db : decide (b < (l.length : Int)) = true := decide_eq_true b1
  have dc : decide (c < (l.length : Int)) = true := decide_eq_true c1
  have hL : Aside0 (∀ W, Below w.heap.size w W → W.cell? ⟨mb, 0, none⟩ = some (.slice (some ad) l.length cap) ∧ W.cell? (ad.add (a.toNat * 2)) = some (.float .f64 (rd_T68 l a).f0) ∧ W.cell? ⟨(ad.add (a.toNat * 2)).block, (ad.add (a.toNat * 2)).off + 1, none⟩ = some (.float .f64 (rd_T68 l a).f1) ∧ W.cell? (ad.add (b.toNat * 2)) = some (.float .f64 (rd_T68 l b).f0) ∧ W.cell? ⟨(ad.add (b.toNat * 2)).block, (ad.add (b.toNat * 2)).off + 1, none⟩ = some (.float .f64 (rd_T68 l b).f1) ∧ W.cell? (ad.add (c.toNat * 2)) = some (.float .f64 (rd_T68 l c).f0) ∧ W.cell? ⟨(ad.add (c.toNat * 2)).block, (ad.add (c.toNat * 2)).off + 1, none⟩ = some (.float .f64 (rd_T68 l c).f1)) :=
    ⟨fun W hb => ⟨bcell hb z0, bcell hb xa0, bcell hb xa1, bcell hb xb0, bcell hb xb1, bcell hb xc0, bcell hb xc1⟩⟩
  clear h e1 e0 ha hb hc hs xa0 xa1 xb0 xb1 xc0 xc1 pa pb pc ma mb' mc hgp hC
  go_enter Tryz.func61, Tryz.ntmps61
  go_upto_region 5 with (first | (go_at_call 105; (with_reducible refine ca.mono ?_); rintro u_ w5 ⟨rfl, rfl⟩) | (go_at_call 105; (with_reducible refine cb.mono ?_); rintro u_ w5 ⟨rfl, rfl⟩) | (go_at_call 105; (with_reducible refine cc.mono ?_); rintro u_ w5 ⟨rfl, rfl⟩))
  go_region_held3 (fun W => W.cell? ⟨mb, 0, none⟩ = some (.slice (some ad) l.length cap) ∧ W.cell? (ad.add (a.toNat * 2)) = some (.float .f64 (rd_T68 l a).f0) ∧ W.cell? ⟨(ad.add (a.toNat * 2)).block, (ad.add (a.toNat * 2)).off + 1, none⟩ = some (.float .f64 (rd_T68 l a).f1) ∧ W.cell? (ad.add (b.toNat * 2)) = some (.float .f64 (rd_T68 l b).f0) ∧ W.cell? ⟨(ad.add (b.toNat * 2)).block, (ad.add (b.toNat * 2)).off + 1, none⟩ = some (.float .f64 (rd_T68 l b).f1) ∧ W.cell? (ad.add (c.toNat * 2)) = some (.float .f64 (rd_T68 l c).f0) ∧ W.cell? ⟨(ad.add (c.toNat * 2)).block, (ad.add (c.toNat * 2)).off + 1, none⟩ = some (.float .f64 (rd_T68 l c).f1))
    ((with_reducible refine heldB hL ?_; (repeat (first | assumption | exact Below.refl _ _ | apply below_drew1 | apply below_alloc | apply pw_below_drewN))))
    ((go_at_call 114; (with_reducible refine (hsg _).mono ?_); rintro u_ w5 ⟨rfl, hb5⟩; have hB5 := below_step (w := w) (by (with_reducible (repeat (first | assumption | exact Below.refl _ _ | apply below_drew1 | apply below_alloc | apply pw_below_drewN)))) hb5; clear hb5))
  all_goals
    go_wp2
    go_ret
    exact make_no HH.out.1 HH.out.2 (by decide) hB5
end
end Go.Proofs.YtjiolfpahollkaaGreatDoor.Msh
end
section
set_option linter.unusedVariables false
set_option linter.unusedSimpArgs false
namespace Go.Proofs.YtjiolfpahollkaaGreatDoorW.PrintLast
end Go.Proofs.YtjiolfpahollkaaGreatDoorW.PrintLast
namespace Go.Proofs.YtjiolfpahollkaaGreatDoorW.PrintMore
end Go.Proofs.YtjiolfpahollkaaGreatDoorW.PrintMore
namespace Go.Proofs.YtjiolfpahollkaaGreatDoorW.PrintWords
end Go.Proofs.YtjiolfpahollkaaGreatDoorW.PrintWords
namespace Go.Proofs.YtjiolfpahollkaaGreatDoor.Kfl
open Go.RowKit Go.Sort Go.Proofs Go.Shelf Go.Proofs.YtjiolfpahollkaaGreatDoorW.PrintWords Go.Proofs.YtjiolfpahollkaaGreatDoorW.PrintLast Go.Proofs.YtjiolfpahollkaaGreatDoorW.PrintMore
structure Flat {α : Type} (d : Kd α) (enc : α → List Value) : Prop where
  len : ∀ x, (enc x).length = d.sz
  one : ∀ x, ∀ v ∈ enc x, v.oneCell' = true
  M : ∀ w base ok x cs, d.M w base ok x cs ↔ cs = enc x
  K : ∀ w x cs, d.K w x cs ↔ cs = enc x
section
variable {α : Type} {enc : α → List Value} {k : Nat}
theorem flat_length (hk : ∀ x, (enc x).length = k) : ∀ l : List α, (l.flatMap enc).length = l.length * k
  | [] => by simp
  | x :: l => by rw [List.flatMap_cons, List.length_append, hk, flat_length hk l, List.length_cons, Nat.add_mul]; omega
theorem flat_take (hk : ∀ x, (enc x).length = k) : ∀ (l : List α) (j : Nat) (p : α), l[j]? = some p → ((l.flatMap enc).drop (j * k)).take k = enc p
  | [], _, _, h => by simp at h
  | x :: l, 0, p, h => by
    simp only [List.getElem?_cons_zero, Option.some.injEq] at h
    subst h
    rw [List.flatMap_cons, Nat.zero_mul, List.drop_zero, List.take_left' (hk x)]
  | x :: l, j + 1, p, h => by
    simp only [List.getElem?_cons_succ] at h
    have e : (j + 1) * k = (enc x).length + j * k := by rw [hk, Nat.add_mul]; omega
    rw [List.flatMap_cons, e, List.drop_append, List.drop_eq_nil_of_le (by omega), List.nil_append, show (enc x).length + j * k - (enc x).length = j * k by omega]
    exact flat_take hk l j p h
theorem flat_reps (hk : ∀ x, (enc x).length = k) (l : List α) (cs : List Value) : Reps (fun x c => c = enc x) k l cs ↔ cs = l.flatMap enc := by
  constructor
  · intro h
    induction l generalizing cs with
    | nil => have := h.1; simp at this; simp [this]
    | cons x l ih =>
      have h0 := h.2 0 x (by simp)
      rw [Nat.zero_mul, List.drop_zero] at h0
      rw [List.flatMap_cons, ← h0]
      have hl := h.1
      rw [List.length_cons, Nat.add_mul] at hl
      have := ih (cs.drop k) ⟨by rw [List.length_drop]; omega, fun j p hj => by
        have := h.2 (j + 1) p (by simpa using hj)
        rw [List.drop_drop, show k + j * k = (j + 1) * k by rw [Nat.add_mul]; omega]
        exact this⟩
      rw [← this, List.take_append_drop]
  · rintro rfl
    exact ⟨flat_length hk l, flat_take hk l⟩
theorem flatK_eq [Inhabited α] (hk : ∀ x, (enc x).length = k) (l : List α) : (flatK enc k l.toArray).toList = l.flatMap enc := by
  apply List.ext_getElem?
  intro t
  by_cases ht : t < l.length * k
  · have k0 : 0 < k := by rcases Nat.eq_zero_or_pos k with h | h; · subst h; simp at ht
                          · exact h
    have hq : t / k < l.length := (Nat.div_lt_iff_lt_mul k0).mpr ht
    have hm : t % k < k := Nat.mod_lt _ k0
    have h1 := get_flatK enc k l.toArray t (by simpa using ht)
    have hs : t < (flatK enc k l.toArray).size := by simpa using ht
    rw [getElem!_pos _ t hs] at h1
    rw [Array.getElem?_toList, Array.getElem?_eq_getElem hs, h1]
    have h2 := flat_take hk l (t / k) l[t / k] (List.getElem?_eq_getElem hq)
    have h3 : (((l.flatMap enc).drop (t / k * k)).take k)[t % k]? = (enc l[t / k])[t % k]? := by rw [h2]
    rw [List.getElem?_take_of_lt hm, List.getElem?_drop, Nat.div_add_mod'] at h3
    rw [h3, getElem!_pos l.toArray (t / k) (by simpa using hq), getElem!_pos _ (t % k) (by rw [hk]; exact hm)]
    simp [hk, hm]
  · rw [List.getElem?_eq_none (by simp; omega), List.getElem?_eq_none (by rw [flat_length hk]; omega)]
end
section
variable {α : Type} {d : Kd α} {enc : α → List Value}
theorem Flat.reps (F : Flat d enc) {w : World} {base : Nat} {ok : Nat → Prop} {l : List α} {cs : List Value} : Reps (d.M w base ok) d.sz l cs ↔ cs = l.flatMap enc := by
  rw [← flat_reps F.len]
  exact ⟨fun h => ⟨h.1, fun j p hj => (F.M _ _ _ _ _).mp (h.2 j p hj)⟩, fun h => ⟨h.1, fun j p hj => (F.M _ _ _ _ _).mpr (h.2 j p hj)⟩⟩
theorem Flat.row (F : Flat d enc) {e base : Nat} {w : World} {ok : Nat → Prop} {v : Value} {xs : List α} : d.R e w base ok v xs ↔ (∀ k, v.ownBlock = some k → ok k) ∧ w.ownsRow base e d.sz v xs.length (xs.flatMap enc) := by
  constructor
  · rintro ⟨h0, inner, ho, hr⟩
    rw [F.reps.mp hr] at ho
    exact ⟨h0, ho⟩
  · rintro ⟨h0, ho⟩
    exact ⟨h0, _, ho, F.reps.mpr rfl⟩
theorem Flat.pair {β : Type} {d' : Kd β} {enc' : β → List Value} (F : Flat d enc) (G : Flat d' enc') : Flat (Kd.pair d d') (fun x => enc x.1 ++ enc' x.2) where
  len x := by rw [List.length_append, F.len, G.len]; rfl
  one x v hv := by
    rcases List.mem_append.mp hv with h | h
    · exact F.one _ _ h
    · exact G.one _ _ h
  M w base ok x cs := by
    show (∃ c0 c1, cs = c0 ++ c1 ∧ d.M w base ok x.1 c0 ∧ d'.M w base ok x.2 c1) ↔ _
    constructor
    · rintro ⟨c0, c1, rfl, h0, h1⟩
      rw [(F.M _ _ _ _ _).mp h0, (G.M _ _ _ _ _).mp h1]
    · rintro rfl
      exact ⟨_, _, rfl, (F.M _ _ _ _ _).mpr rfl, (G.M _ _ _ _ _).mpr rfl⟩
  K w x cs := by
    show (∃ c0 c1, cs = c0 ++ c1 ∧ d.K w x.1 c0 ∧ d'.K w x.2 c1) ↔ _
    constructor
    · rintro ⟨c0, c1, rfl, h0, h1⟩
      rw [(F.K _ _ _).mp h0, (G.K _ _ _).mp h1]
    · rintro rfl
      exact ⟨_, _, rfl, (F.K _ _ _).mpr rfl, (G.K _ _ _).mpr rfl⟩
theorem flat_int (k : IntKind) : Flat (Kd.int k) (fun x => [Value.int k x]) := ⟨fun _ => rfl, fun x v hv => by rw [List.mem_singleton.mp hv]; rfl, fun _ _ _ _ _ => Iff.rfl, fun _ _ _ => Iff.rfl⟩
theorem block_sorted {w : World} {g n : Nat} {os : Array Obj} {cur : Array Value} {e : TypeId} {fr : Nat × Nat} (F : Array Value) (hb : w.heap[g]? = some (.cells cur e fr)) :
    (grow (putRow id (Sort.ahead w n) g 0 F) os).heap[g]? = some (.cells (putCells id 0 F cur) e fr) := by
  have hg : g < w.heap.size := (Array.getElem?_eq_some_iff.1 hb).1
  rw [heap_grow_old _ _ (by simpa using hg)]
  simp [putRow, mapBlock, Sort.ahead, Array.getElem?_modify, hb, onCells]
theorem grownBy_row {w : World} {g n : Nat} {os : Array Obj} (F : Array Value) : w.grownBy (grow (putRow id (Sort.ahead w n) g 0 F) os) (some g) := by
  refine ⟨rfl, rfl, rfl, by simp, fun k hk hne => ?_⟩
  rw [heap_grow_old _ _ (by simpa using hk)]
  have : g ≠ k := fun e => hne (by rw [e])
  simp [putRow, mapBlock, Sort.ahead, Array.getElem?_modify, this]
theorem take_cells (cur F : Array Value) (h : F.size ≤ cur.size) : (putCells id 0 F cur).toList.take F.size = F.toList := by
  apply List.ext_getElem?
  intro j
  by_cases hj : j < F.size
  · rw [List.getElem?_take_of_lt hj, Array.getElem?_toList]
    simp [putCells, hj, show j < cur.size by omega]
  · rw [List.getElem?_take_eq_none (by omega), List.getElem?_eq_none (by simp; omega)]
theorem holds_block {w : World} {g : Nat} {cur : Array Value} {e : TypeId} {F : Array Value} (hb : w.heap[g]? = some (.cells cur e (0, 0))) (ht : cur.toList.take F.size = F.toList) : Holds id w g 0 F := by
  intro j hj
  refine ⟨?_, by simp [World.frozen?, hb]⟩
  have h1 : (cur.toList.take F.size)[j]? = F.toList[j]? := by rw [ht]
  rw [List.getElem?_take_of_lt hj] at h1
  simp only [World.cell?, hb, Nat.zero_add]
  simp only [Option.isSome_none, Bool.false_eq_true, if_false]
  rw [← Array.getElem?_toList, h1]
  simp [hj]
variable {P : Program} {ρ : Ren} [Inhabited α]
theorem Flat.sort (F : Flat d enc) (L : SlLaysF0.n6 P ρ) (aE : ∀ w, (isAgg (ρ.t 24)).run P w = .ok true w) (zE : ∀ w, (Go.sizeOf (ρ.t 24)).run P w = .ok d.sz w) (cf : α → α → Int) (hO : SWO (ltOf cf))
    (gf : Nat) (cb : Array Value) (eg : ∀ args w, (callFunc gf args).run P w = .ok (.enter gf args) w) {w : World} {e base : Nat} {ok : Nat → Prop} {v : Value} {xs : List α} (hR : d.R e w base ok v xs)
    (hc : ∀ (x y : α) (W : World), (∀ c, c < w.heap.size → some c ≠ v.ownBlock → W.heap[c]? = w.heap[c]?) → Calls P gf (#[.agg (enc x).toArray, .agg (enc y).toArray] ++ cb) W fun r W' => r = .returned (.int .i64 (cf x y)) ∧ ∃ q os', W' = grow (W.drewN q) os') (hsz : xs.length < 4611686018427387904) :
    Calls P (ρ.f 6) #[v, .func (.func gf) #[] cb] w fun r W' => r = .returned (.tuple #[]) ∧ ∃ ys : List α, ys.Perm xs ∧ ys.Pairwise (fun a b => (ltOf cf) b a = false) ∧ d.R e W' base ok v ys ∧ w.grownBy W' v.ownBlock := by
  obtain ⟨h0, ho⟩ := F.row.mp hR
  obtain ⟨hl, ⟨rfl, hn⟩ | ⟨g, cap, cur, rfl, hg, hb, hnc, hcm, hcs, htk⟩⟩ := ho
  · have hx : xs = [] := List.length_eq_zero_iff.mp hn
    subst hx
    refine (AnyF.slices_SortFunc_none L none 0 _ w).mono fun r W' ⟨he, hw⟩ => ⟨he, [], List.Perm.refl _, List.Pairwise.nil, ?_, ?_⟩
    · subst hw; exact hR
    · subst hw; exact ⟨rfl, rfl, rfl, Nat.le_refl _, fun _ _ _ => rfl⟩
  · have hblk : g < w.heap.size := (Array.getElem?_eq_some_iff.1 hb).1
    have hflat : (flatK enc d.sz xs.toArray).toList = xs.flatMap enc := flatK_eq F.len xs
    have hH : HoldsK enc d.sz w g 0 xs.toArray := holds_block hb (by rw [hflat, size_flatK]; simpa using htk)
    have hcmp : CmpLays P gf cb enc d.sz cf g 0 xs.toArray.size w := by
      intro m os dk hdk x y
      refine hc x y _ fun c hcl hne => ?_
      unfold sortWorldK
      exact (grownBy_row (os := os) (flatK enc d.sz dk)).block c hcl (fun q => hne (by rw [q]; rfl))
    have hS := AnyQ.slices_SortFunc L d.sz aE zE enc F.len F.one cf hO gf cb g 0 cap xs.toArray w eg hcmp hH hblk (by simpa using hsz)
    rw [show xs.toArray.size = xs.length by simp] at hS
    refine hS.mono fun r W' ⟨he, d', n, os, ⟨hp1, _, hp2⟩, hs, hw⟩ => ⟨he, d'.toList, ?_, ?_, ?_, ?_⟩
    · have e1 : d'.extract 0 xs.length = d' := by
        have : xs.length = d'.size := by rw [hp1]; simp
        rw [this]; exact Array.extract_size
      have e2 : xs.toArray.extract 0 xs.length = xs.toArray := by
        have : xs.length = xs.toArray.size := by simp
        conv => lhs; rw [this]
        exact Array.extract_size
      rw [e1, e2] at hp2
      simpa using hp2
    · have hz : d'.size = xs.length := by rw [hp1]; simp
      rw [List.pairwise_iff_getElem]
      intro i j hi hj hij
      have hi' : i < d'.size := by simpa using hi
      have hj' : j < d'.size := by simpa using hj
      have := hs i j (Nat.zero_le _) hij (by omega)
      rw [getElem!_pos d' j hj', getElem!_pos d' i hi'] at this
      simpa using this
    · rw [hw]
      refine F.row.mpr ⟨h0, ?_⟩
      have hlen : d'.toList.length = xs.length := by
        rw [Array.length_toList, hp1]
        simp
      have hfl : (flatK enc d.sz d').toList = d'.toList.flatMap enc := by have := flatK_eq F.len d'.toList; simpa using this
      have hsz2 : (flatK enc d.sz d').size = xs.length * d.sz := by rw [size_flatK, ← hlen]; simp
      rw [hlen]
      refine ⟨by rw [flat_length F.len, hlen], .inr ⟨g, cap, _, rfl, hg, block_sorted _ hb, hnc, hcm, by simp [putCells, hcs], ?_⟩⟩
      rw [← hfl, ← hsz2]
      refine take_cells cur _ ?_
      rw [hsz2, hcs]
      exact Nat.mul_le_mul_right _ hnc
    · rw [hw]
      exact grownBy_row _
end
end Go.Proofs.YtjiolfpahollkaaGreatDoor.Kfl
end
