/- What the proof needs of Mcc: only what is used is left (wip/tools/prune.py). Conditions stand in each sentence. -/
import Derived.Test.YtjiolfpahollkaaGreatDoorQNMcl
import Derived.Test.YtjiolfpahollkaaGreatDoorQNMca
import Derived.Test.YtjiolfpahollkaaGreatDoorQNHld
import Derived.Test.YtjiolfpahollkaaGreatDoorQNMmr
import Derived.Test.YtjiolfpahollkaaGreatDoorQNAdm
section
set_option linter.unusedVariables false
set_option linter.unusedSimpArgs false
namespace Go.Proofs.YtjiolfpahollkaaGreatDoor.Mp
end Go.Proofs.YtjiolfpahollkaaGreatDoor.Mp
namespace Go.Proofs.YtjiolfpahollkaaGreatDoor.Msh
open Go.RowKit Go.Sort Go.Proofs Go.Shelf Go.Proofs.YtjiolfpahollkaaGreatDoor.Mp
structure Picked {α τ : Type} (f : α → Option Value) (left : α → Prop) (pick : α → Value → Option τ) (xs : List τ) : Prop where
  mem : ∀ t, t ∈ xs ↔ ∃ k v, f k = some v ∧ ¬ left k ∧ pick k v = some t
  nd : xs.Nodup
section
variable {α τ : Type} {f : α → Option Value} {left : α → Prop} {pick : α → Value → Option τ} {xs : List τ}
theorem Picked.start : Picked f (fun x => (f x).isSome = true) pick [] := ⟨fun t => by
  constructor
  · intro h; cases h
  · rintro ⟨k, v, h1, h2, -⟩
    rw [h1] at h2; exact absurd rfl h2, List.nodup_nil⟩
theorem Picked.skip (h : Picked f left pick xs) {x : α} {v : Value} (hf : f x = some v) (hp : pick x v = none) : Picked f (fun y => left y ∧ y ≠ x) pick xs := ⟨fun t => by
  rw [h.mem]
  constructor
  · rintro ⟨k, u, h1, h2, h3⟩
    exact ⟨k, u, h1, fun q => h2 q.1, h3⟩
  · rintro ⟨k, u, h1, h2, h3⟩
    refine ⟨k, u, h1, fun q => h2 ⟨q, fun e => ?_⟩, h3⟩
    subst e
    rw [hf] at h1
    injection h1 with h1
    subst h1
    rw [hp] at h3; exact absurd h3 (by simp), h.nd⟩
theorem Picked.add (h : Picked f left pick xs) {x : α} {v : Value} {t : τ} (hf : f x = some v) (hl : left x) (hp : pick x v = some t) (hi : ∀ k u, pick k u = some t → k = x) : Picked f (fun y => left y ∧ y ≠ x) pick (xs ++ [t]) := ⟨fun s => by
  rw [List.mem_append, List.mem_singleton, h.mem]
  constructor
  · rintro (⟨k, u, h1, h2, h3⟩ | rfl)
    · exact ⟨k, u, h1, fun q => h2 q.1, h3⟩
    · exact ⟨x, v, hf, fun q => q.2 rfl, hp⟩
  · rintro ⟨k, u, h1, h2, h3⟩
    by_cases e : k = x
    · subst e
      rw [hf] at h1
      injection h1 with h1
      subst h1
      rw [hp] at h3
      injection h3 with h3
      exact .inr h3.symm
    · exact .inl ⟨k, u, h1, fun q => h2 ⟨q, e⟩, h3⟩, by
  rw [List.nodup_append]
  refine ⟨h.nd, by simp, fun a ha b hb e => ?_⟩
  rw [List.mem_singleton] at hb
  subst e hb
  obtain ⟨k, u, h1, h2, h3⟩ := (h.mem _).mp ha
  rw [hi k u h3] at h2
  exact h2 hl⟩
theorem Picked.done (h : Picked f left pick xs) (hd : ∀ x, ¬ left x) (t : τ) : t ∈ xs ↔ ∃ k v, f k = some v ∧ pick k v = some t := by
  rw [h.mem]
  exact ⟨fun ⟨k, v, h1, _, h3⟩ => ⟨k, v, h1, h3⟩, fun ⟨k, v, h1, h3⟩ => ⟨k, v, h1, hd k, h3⟩⟩
end
theorem ltOf_cmp3 (x y : Tr) : ltOf cmp3 x y = decide (lt3 x y) := by
  unfold ltOf
  by_cases h : lt3 x y
  · rw [decide_eq_true h, decide_eq_true (cmp3_lt.mpr h)]
  · rw [decide_eq_false h, decide_eq_false (fun q => h (cmp3_lt.mp q))]
theorem swo3 : SWO (ltOf cmp3) where
  irrefl x := by rw [ltOf_cmp3, decide_eq_false_iff_not]; exact lt3_irrefl x
  trans x y z h k := by
    rw [ltOf_cmp3, decide_eq_true_iff] at *
    exact lt3_trans h k
  ntrans x y z h k := by
    rw [ltOf_cmp3, decide_eq_false_iff_not] at *
    intro q
    rcases lt3_total x y with r | r | r
    · exact h r
    · rw [r] at q; exact k q
    · exact k (lt3_trans r q)
theorem up_sorted {xs ys : List Tr} (hp : ys.Perm xs) (hs : ys.Pairwise fun a b => (ltOf cmp3) b a = false) (h : xs.Nodup) : Up ys := by
  refine (hs.and (hp.nodup_iff.mpr h)).imp fun {a b} hab => ?_
  rw [ltOf_cmp3, decide_eq_false_iff_not] at hab
  rcases lt3_total a b with r | r | r
  · exact r
  · exact absurd r hab.2
  · exact absurd r hab.1
theorem sorted_eq {xs ys O : List Tr} (hp : ys.Perm xs) (hs : ys.Pairwise fun a b => (ltOf cmp3) b a = false) (hn : xs.Nodup) (hu : Up O) (h : ∀ t, t ∈ xs ↔ t ∈ O) : ys = O := up_eq (up_sorted hp hs hn) hu fun t => by rw [hp.mem_iff, h]
end Go.Proofs.YtjiolfpahollkaaGreatDoor.Msh
end
section
set_option linter.unusedVariables false
set_option linter.unusedSimpArgs false
namespace Go.Proofs.YtjiolfpahollkaaGreatDoor.Adm
end Go.Proofs.YtjiolfpahollkaaGreatDoor.Adm
namespace Go.Proofs.YtjiolfpahollkaaGreatDoor.Kfl
end Go.Proofs.YtjiolfpahollkaaGreatDoor.Kfl
namespace Go.Proofs.YtjiolfpahollkaaGreatDoor.Mp
end Go.Proofs.YtjiolfpahollkaaGreatDoor.Mp
namespace Go.Proofs.YtjiolfpahollkaaGreatDoorW.PrintLast
end Go.Proofs.YtjiolfpahollkaaGreatDoorW.PrintLast
namespace Go.Proofs.YtjiolfpahollkaaGreatDoorW.PrintMore
end Go.Proofs.YtjiolfpahollkaaGreatDoorW.PrintMore
namespace Go.Proofs.YtjiolfpahollkaaGreatDoorW.PrintWords
end Go.Proofs.YtjiolfpahollkaaGreatDoorW.PrintWords
namespace Go.Proofs.YtjiolfpahollkaaGreatDoor.Msh
open Go.RowKit Go.Sort Go.Proofs Go.Shelf Go.Proofs.YtjiolfpahollkaaGreatDoor.Mp Go.Proofs.YtjiolfpahollkaaGreatDoor.Adm Go.Proofs.YtjiolfpahollkaaGreatDoor.Kfl Go.Proofs.YtjiolfpahollkaaGreatDoorW.PrintWords Go.Proofs.YtjiolfpahollkaaGreatDoorW.PrintLast Go.Proofs.YtjiolfpahollkaaGreatDoorW.PrintMore
abbrev kTr : Kd Tr := Kd.pair (Kd.int .i64) (Kd.pair (Kd.int .i64) (Kd.int .i64))
def cT (t : Tr) : List Value := [.int .i64 t.1, .int .i64 t.2.1, .int .i64 t.2.2]
theorem flatT : Flat kTr cT := (flat_int .i64).pair ((flat_int .i64).pair (flat_int .i64))
abbrev anyB : Nat → Prop := fun _ => True
theorem grown_trans {w w1 w2 : World} {v : Option Nat} (h : Below w.heap.size w w1) (k : w1.grownBy w2 v) : w.grownBy w2 v := ⟨k.os.trans h.os, k.tape.trans h.tape, k.output.trans h.output, Nat.le_trans h.size k.size, fun q hq hn => (k.block q (Nat.lt_of_lt_of_le hq h.size) hn).trans (h.block q hq)⟩
theorem grown_below {w w1 : World} {B : Nat} {v : Option Nat} (k : w.grownBy w1 v) (hv : ∀ q, v = some q → B ≤ q) (hB : B ≤ w.heap.size) : Below B w w1 := ⟨k.os, k.tape, k.output, k.size, fun q hq => k.block q (Nat.lt_of_lt_of_le hq hB) (fun e => by have := hv q e.symm; omega)⟩
section
variable {ops : Array Oper} {rest : List Oper} {o : Oper} {a : Act} {Q : Exit → Act → World → Prop}
theorem wp_add1 {α : Type} {d : Kd α} {enc : α → List Value} (F : Flat d enc) {W : World} {base : Nat} (hgd : o.guard = none) (s x : Operand) (t e : TypeId) (z : Value) (bytes : Nat)
    (ho : o.op = .call { callee := .builtin .append, args := #[s, x], argTypes := #[t, t] }) (ht : Tryz.prog.underlying t = some (.slice e)) (hinfo : (Tryz.prog.info? e).map (fun i => (i.zero, i.size, i.bytes)) = some (some z, d.sz, bytes)) (hz : z.cells.size = d.sz) (hs0 : 0 < d.sz) (hb0 : 0 < bytes)
    {v : Value} {xs : List α} (p : α) {cs : Array Value} (hs : a.eval s = v) (hx : a.eval x = .slice (some ⟨W.heap.size, 0, none⟩) 1 1) (hcs : cs = (enc p).toArray) (HO : d.R e W base anyB v xs) (hbase : base ≤ W.heap.size) (hl : (xs.length + 1) * bytes ≤ 140737488355328)
    (h : ∀ v1 w1, d.R e w1 base anyB v1 (xs ++ [p]) → W.grownBy w1 v.ownBlock → wpList Tryz.prog ops Q rest (a.put o.dst v1) w1) : wpList Tryz.prog ops Q (o :: rest) a (W.alloc (.cells cs e)) := by
  subst hcs
  exact Kd.R_append d (w0 := W) base hgd s x t e z bytes ho ht hinfo hz hs0 hb0 v xs p (enc p) anyB (fun _ => False) hs hx ((F.M _ _ _ _ _).mpr rfl) (fun _ h => h.elim) (fun _ _ => trivial) HO (Below.refl _ _) hbase hl (fun v1 w1 h1 _ h3 _ => h v1 w1 h1 h3)
end
theorem row_keeps {α : Type} {d : Kd α} {e base b : Nat} {W w1 : World} {ok : Nat → Prop} {v : Value} {xs : List α} {o : Obj} (hv : d.R e W base ok v xs) (hg : W.grownBy w1 v.ownBlock) (hb : W.heap[b]? = some o) (ho : ∀ cs e fr, o ≠ .cells cs e fr) : w1.heap[b]? = some o := by
  refine (hg.block b (blk_lt hb) (fun q => ?_)).trans hb
  obtain ⟨inner, hi⟩ := Kd.R_own hv
  obtain ⟨cells, hc⟩ := own_typed hi b q.symm
  rw [hb] at hc
  injection hc with hc
  exact ho _ _ _ hc
set_option maxHeartbeats 1000000 in
theorem sortedTri_call {w : World} {base : Nat} {v : Value} {xs : List Tr} (hR : kTr.R 53 w base anyB v xs) (hsz : xs.length < 4611686018427387904) :
    Calls Tryz.prog 74 #[v, .func (.func 75) #[] #[]] w fun r w' => r = .returned v ∧ ∃ ys : List Tr, ys.Perm xs ∧ ys.Pairwise (fun a b => (ltOf cmp3) b a = false) ∧ kTr.R 53 w' base anyB v ys ∧ w.grownBy w' v.ownBlock := by
  have hlt := Kd.R_lt hR
  obtain ⟨W1, hW1⟩ : ∃ W1, W1 = w.alloc (.cells #[.func (.func 75) #[] #[]] 122) := ⟨_, rfl⟩
  have hB : Below w.heap.size w W1 := by rw [hW1]; exact below_alloc (Below.refl _ _) _
  have hbox : W1.heap[w.heap.size]? = some (.cells #[.func (.func 75) #[] #[]] 122 (0, 0)) := by rw [hW1]; exact blk_new _ _
  have eg : ∀ args w, (callFunc 127 args).run Tryz.prog w = .ok (.enter 127 args) w := enters_of Tryz.func127 (by kernel_rfl) rfl
  have hmf : ∀ (fn : Fn) (first cap : Array Value) (w : World), (Instr.makeFunc fn first cap).run Tryz.prog w = .ok (.func fn first cap) w := fun _ _ _ _ => rfl
  have hS := flatT.sort Srq.sortL Tryz.isAgg53 Tryz.sizeOf53 cmp3 swo3 127 #[.pointer (some ⟨w.heap.size, 0, none⟩)] eg (Kd.R_below hR hB) (fun x y W hW => by
    have hk : W.cell? ⟨w.heap.size, 0, none⟩ = some (.func (.func 75) #[] #[]) := by
      have := (hW w.heap.size (blk_lt hbox) (fun q => by have := hlt _ q.symm; omega)).trans hbox
      exact blk_cell this 0
    exact (sortTris_call w.heap.size x y W hk).mono fun r W' ⟨he, hg⟩ => ⟨he, hg.out⟩) hsz
  change Calls Tryz.prog 126 _ _ _ at hS
  subst hW1
  go_enter Tryz.func74, Tryz.ntmps74
  go_wp2_with (go_at_call 126; (with_reducible refine hS.mono ?_); rintro u_ w2 ⟨rfl, ys, h1, h2, h3, h4⟩)
  go_ret
  exact ⟨rfl, ys, h1, h2, h3, grown_trans hB h4⟩
theorem nodup_sub {α : Type} [DecidableEq α] : ∀ {l l' : List α}, l.Nodup → (∀ x ∈ l, x ∈ l') → l.length ≤ l'.length
  | [], _, _, _ => Nat.zero_le _
  | x :: a, b, h, hm => by
    obtain ⟨h1, h2⟩ := List.nodup_cons.mp h
    have hx := hm x (by simp)
    have := nodup_sub (l := a) (l' := b.erase x) h2 (fun y hy => (List.mem_erase_of_ne (fun h0 => h1 (by rw [← h0]; exact hy))).mpr (hm y (by simp [hy])))
    rw [List.length_erase_of_mem hx] at this
    have := List.length_pos_of_mem hx
    simp; omega
theorem pairs_size {n : Nat} {xs : List (Int × Int)} (hn : xs.Nodup) (hx : ∀ p ∈ xs, (0 ≤ p.1 ∧ p.1 < n) ∧ (0 ≤ p.2 ∧ p.2 < n)) : xs.length ≤ n * n := by
  have h1 : (xs.map fun p => p.1.toNat * n + p.2.toNat).Nodup := by
    unfold List.Nodup
    rw [List.pairwise_map]
    refine hn.imp_of_mem fun {a b} ha hb hab e => hab ?_
    obtain ⟨⟨a1, a2⟩, a3, a4⟩ := hx a ha
    obtain ⟨⟨b1, b2⟩, b3, b4⟩ := hx b hb
    obtain ⟨x, hx⟩ : ∃ x : Nat, a.1 = x := ⟨a.1.toNat, by omega⟩
    obtain ⟨y, hy⟩ : ∃ y : Nat, a.2 = y := ⟨a.2.toNat, by omega⟩
    obtain ⟨u, hu⟩ : ∃ u : Nat, b.1 = u := ⟨b.1.toNat, by omega⟩
    obtain ⟨v, hv⟩ : ∃ v : Nat, b.2 = v := ⟨b.2.toNat, by omega⟩
    rw [hx, hy, hu, hv] at e
    simp only [Int.toNat_natCast] at e
    have hyn : y < n := by omega
    have hvn : v < n := by omega
    have e1 : (x * n + y) % n = (u * n + v) % n := by rw [e]
    rw [Nat.mul_comm x, Nat.mul_comm u, Nat.mul_add_mod, Nat.mul_add_mod, Nat.mod_eq_of_lt hyn, Nat.mod_eq_of_lt hvn] at e1
    subst e1
    have e2 : x * n = u * n := by omega
    have e3 := Nat.eq_of_mul_eq_mul_right (by omega) e2
    exact Prod.ext (by rw [hx, hu, e3]) (by rw [hy, hv])
  have h2 := nodup_sub h1 (l' := List.range (n * n)) (fun k hk => by
    obtain ⟨p, hp, rfl⟩ := List.mem_map.mp hk
    obtain ⟨⟨a1, a2⟩, a3, a4⟩ := hx p hp
    rw [List.mem_range]
    have h3 : p.1.toNat + 1 ≤ n := by omega
    have h4 := Nat.mul_le_mul_right n h3
    rw [Nat.add_mul] at h4
    omega)
  rw [List.length_map, List.length_range] at h2
  exact h2
end Go.Proofs.YtjiolfpahollkaaGreatDoor.Msh
end
