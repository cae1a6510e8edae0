/- Lemmas of Kfl. Conditions stand in each. -/
import Derived.Shelf.SlSortCmp.NoneTotal
import Derived.Lib.Hide
import Derived.Test.YtaoichlepfiliaaGreatDoorQXWFootNe
import Derived.Test.YtaoichlepfiliaaGreatDoorQXMsa
import Derived.Test.YtaoichlepfiliaaGreatDoorQXMcb
import Derived.Test.YtaoichlepfiliaaGreatDoorQXAdm
set_option linter.unusedSimpArgs false
set_option linter.unusedVariables false
section
namespace Go.Proofs.YtaoichlepfiliaaGreatDoor.Kfl
open Go.RowKit Go.Sort Go.Proofs Go.Shelf Go.Proofs.YtaoichlepfiliaaGreatDoorW.PrintWords Go.Proofs.YtaoichlepfiliaaGreatDoorW.PrintLast
structure Flat {α : Type} (d : Kd α) (enc : α → List Value) : Prop where
 len : ∀ x, (enc x).length = d.sz
 one : ∀ x, ∀ v ∈ enc x, v.oneCell' = true
 M : ∀ w base ok x cs, d.M w base ok x cs ↔ cs = enc x
 K : ∀ w x cs, d.K w x cs ↔ cs = enc x
section
variable {α : Type} {enc : α → List Value} {k : Nat}
theorem flat_length (hk : ∀ x, (enc x).length = k) : ∀ l : List α, (l.flatMap enc).length = l.length * k
 | [] => by simp
 | x :: l => by rw [List.flatMap_cons, List.length_append, hk, flat_length hk l, List.length_cons, Nat.add_mul]; omega
theorem flat_take (hk : ∀ x, (enc x).length = k) : ∀ (l : List α) (j : Nat) (p : α), l[j]? = some p → ((l.flatMap enc).drop (j * k)).take k = enc p
 | [], _, _, h => by simp at h
 | x :: l, 0, p, h => by
  simp only [List.getElem?_cons_zero, Option.some.injEq] at h
  subst h
  rw [List.flatMap_cons, Nat.zero_mul, List.drop_zero, List.take_left' (hk x)]
 | x :: l, j + 1, p, h => by
  simp only [List.getElem?_cons_succ] at h
  have e : (j + 1) * k = (enc x).length + j * k := by rw [hk, Nat.add_mul]; omega
  rw [List.flatMap_cons, e, List.drop_append, List.drop_eq_nil_of_le (by omega), List.nil_append, show (enc x).length + j * k - (enc x).length = j * k by omega]
  exact flat_take hk l j p h
theorem flat_reps (hk : ∀ x, (enc x).length = k) (l : List α) (cs : List Value) : Reps (fun x c => c = enc x) k l cs ↔ cs = l.flatMap enc := by
 constructor
 ·intro h
  induction l generalizing cs with
  | nil => have := h.1; simp at this; simp [this]
  | cons x l ih =>
   have h0 := h.2 0 x (by simp)
   rw [Nat.zero_mul, List.drop_zero] at h0
   rw [List.flatMap_cons, ← h0]
   have hl := h.1
   rw [List.length_cons, Nat.add_mul] at hl
   have := ih (cs.drop k) ⟨by rw [List.length_drop]; omega, fun j p hj => by
    have := h.2 (j + 1) p (by simpa using hj)
    rw [List.drop_drop, show k + j * k = (j + 1) * k by rw [Nat.add_mul]; omega]
    exact this⟩
   rw [← this, List.take_append_drop]
 ·rintro rfl
  exact ⟨flat_length hk l, flat_take hk l⟩
theorem flatK_eq [Inhabited α] (hk : ∀ x, (enc x).length = k) (l : List α) : (flatK enc k l.toArray).toList = l.flatMap enc := by
 apply List.ext_getElem?
 intro t
 by_cases ht : t < l.length * k
 ·have k0 : 0 < k := by rcases Nat.eq_zero_or_pos k with h | h; · subst h; simp at ht
                        ·exact h
  have hq : t / k < l.length := (Nat.div_lt_iff_lt_mul k0).mpr ht
  have hm : t % k < k := Nat.mod_lt _ k0
  have h1 := get_flatK enc k l.toArray t (by simpa using ht)
  have hs : t < (flatK enc k l.toArray).size := by simpa using ht
  rw [getElem!_pos _ t hs] at h1
  rw [Array.getElem?_toList, Array.getElem?_eq_getElem hs, h1]
  have h2 := flat_take hk l (t / k) l[t / k] (List.getElem?_eq_getElem hq)
  have h3 : (((l.flatMap enc).drop (t / k * k)).take k)[t % k]? = (enc l[t / k])[t % k]? := by rw [h2]
  rw [List.getElem?_take_of_lt hm, List.getElem?_drop, Nat.div_add_mod'] at h3
  rw [h3, getElem!_pos l.toArray (t / k) (by simpa using hq), getElem!_pos _ (t % k) (by rw [hk]; exact hm)]
  simp [hk, hm]
 ·rw [List.getElem?_eq_none (by simp; omega), List.getElem?_eq_none (by rw [flat_length hk]; omega)]
end
section
variable {α : Type} {d : Kd α} {enc : α → List Value}
theorem Flat.reps (F : Flat d enc) {w : World} {base : Nat} {ok : Nat → Prop} {l : List α} {cs : List Value} : Reps (d.M w base ok) d.sz l cs ↔ cs = l.flatMap enc := by
 rw [← flat_reps F.len]
 exact ⟨fun h => ⟨h.1, fun j p hj => (F.M _ _ _ _ _).mp (h.2 j p hj)⟩, fun h => ⟨h.1, fun j p hj => (F.M _ _ _ _ _).mpr (h.2 j p hj)⟩⟩
theorem Flat.row (F : Flat d enc) {e base : Nat} {w : World} {ok : Nat → Prop} {v : Value} {xs : List α} : d.R e w base ok v xs ↔ (∀ k, v.ownBlock = some k → ok k) ∧ w.ownsRow base e d.sz v xs.length (xs.flatMap enc) := by
 constructor
 ·rintro ⟨h0, inner, ho, hr⟩
  rw [F.reps.mp hr] at ho
  exact ⟨h0, ho⟩
 ·rintro ⟨h0, ho⟩
  exact ⟨h0, _, ho, F.reps.mpr rfl⟩
theorem Flat.pair {β : Type} {d' : Kd β} {enc' : β → List Value} (F : Flat d enc) (G : Flat d' enc') : Flat (Kd.pair d d') (fun x => enc x.1 ++ enc' x.2) where
 len x := by rw [List.length_append, F.len, G.len]; rfl
 one x v hv := by
  rcases List.mem_append.mp hv with h | h
  ·exact F.one _ _ h
  ·exact G.one _ _ h
 M w base ok x cs := by
  show (∃ c0 c1, cs = c0 ++ c1 ∧ d.M w base ok x.1 c0 ∧ d'.M w base ok x.2 c1) ↔ _
  constructor
  ·rintro ⟨c0, c1, rfl, h0, h1⟩
   rw [(F.M _ _ _ _ _).mp h0, (G.M _ _ _ _ _).mp h1]
  ·rintro rfl
   exact ⟨_, _, rfl, (F.M _ _ _ _ _).mpr rfl, (G.M _ _ _ _ _).mpr rfl⟩
 K w x cs := by
  show (∃ c0 c1, cs = c0 ++ c1 ∧ d.K w x.1 c0 ∧ d'.K w x.2 c1) ↔ _
  constructor
  ·rintro ⟨c0, c1, rfl, h0, h1⟩
   rw [(F.K _ _ _).mp h0, (G.K _ _ _).mp h1]
  ·rintro rfl
   exact ⟨_, _, rfl, (F.K _ _ _).mpr rfl, (G.K _ _ _).mpr rfl⟩
theorem flat_int (k : IntKind) : Flat (Kd.int k) (fun x => [Value.int k x]) := ⟨fun _ => rfl, fun x v hv => by rw [List.mem_singleton.mp hv]; rfl, fun _ _ _ _ _ => Iff.rfl, fun _ _ _ => Iff.rfl⟩
theorem block_sorted {w : World} {g n : Nat} {os : Array Obj} {cur : Array Value} {e : TypeId} {fr : Nat × Nat} (F : Array Value) (hb : w.heap[g]? = some (.cells cur e fr)) :
 (grow (putRow id (Sort.ahead w n) g 0 F) os).heap[g]? = some (.cells (putCells id 0 F cur) e fr) := by
 have hg : g < w.heap.size := (Array.getElem?_eq_some_iff.1 hb).1
 rw [heap_grow_old _ _ (by simpa using hg)]
 simp [putRow, mapBlock, Sort.ahead, Array.getElem?_modify, hb, onCells]
theorem grownBy_row {w : World} {g n : Nat} {os : Array Obj} (F : Array Value) : w.grownBy (grow (putRow id (Sort.ahead w n) g 0 F) os) (some g) := by
 refine ⟨rfl, rfl, rfl, by simp, fun k hk hne => ?_⟩
 rw [heap_grow_old _ _ (by simpa using hk)]
 have : g ≠ k := fun e => hne (by rw [e])
 simp [putRow, mapBlock, Sort.ahead, Array.getElem?_modify, this]
theorem take_cells (cur F : Array Value) (h : F.size ≤ cur.size) : (putCells id 0 F cur).toList.take F.size = F.toList := by
 apply List.ext_getElem?
 intro j
 by_cases hj : j < F.size
 ·rw [List.getElem?_take_of_lt hj, Array.getElem?_toList]
  simp [putCells, hj, show j < cur.size by omega]
 ·rw [List.getElem?_take_eq_none (by omega), List.getElem?_eq_none (by simp; omega)]
theorem holds_block {w : World} {g : Nat} {cur : Array Value} {e : TypeId} {F : Array Value} (hb : w.heap[g]? = some (.cells cur e (0, 0))) (ht : cur.toList.take F.size = F.toList) : Holds id w g 0 F := by
 intro j hj
 refine ⟨?_, by simp [World.frozen?, hb]⟩
 have h1 : (cur.toList.take F.size)[j]? = F.toList[j]? := by rw [ht]
 rw [List.getElem?_take_of_lt hj] at h1
 simp only [World.cell?, hb, Nat.zero_add]
 simp only [Option.isSome_none, Bool.false_eq_true, if_false]
 rw [← Array.getElem?_toList, h1]
 simp [hj]
variable {P : Program} {ρ : Ren} [Inhabited α]
theorem Flat.sort (F : Flat d enc) (L : SlLaysF0.n6 P ρ) (aE : ∀ w, (isAgg (ρ.t 24)).run P w = .ok true w) (zE : ∀ w, (Go.sizeOf (ρ.t 24)).run P w = .ok d.sz w) (cf : α → α → Int) (hO : SWO (ltOf cf))
 (gf : Nat) (cb : Array Value) (eg : ∀ args w, (callFunc gf args).run P w = .ok (.enter gf args) w) {w : World} {e base : Nat} {ok : Nat → Prop} {v : Value} {xs : List α} (hR : d.R e w base ok v xs)
 (hc : ∀ (x y : α) (W : World), (∀ c, c < w.heap.size → some c ≠ v.ownBlock → W.heap[c]? = w.heap[c]?) → Calls P gf (#[.agg (enc x).toArray, .agg (enc y).toArray] ++ cb) W fun r W' => r = .returned (.int .i64 (cf x y)) ∧ ∃ q os', W' = grow (W.drewN q) os') (hsz : xs.length < 4611686018427387904) :
 Calls P (ρ.f 6) #[v, .func (.func gf) #[] cb] w fun r W' => r = .returned (.tuple #[]) ∧ ∃ ys : List α, ys.Perm xs ∧ ys.Pairwise (fun a b => (ltOf cf) b a = false) ∧ d.R e W' base ok v ys ∧ w.grownBy W' v.ownBlock := by
 obtain ⟨h0, ho⟩ := F.row.mp hR
 obtain ⟨hl, ⟨rfl, hn⟩ | ⟨g, cap, cur, rfl, hg, hb, hnc, hcm, hcs, htk⟩⟩ := ho
 ·have hx : xs = [] := List.length_eq_zero_iff.mp hn
  subst hx
  refine (AnyF.slices_SortFunc_none L none 0 _ w).mono fun r W' ⟨he, hw⟩ => ⟨he, [], List.Perm.refl _, List.Pairwise.nil, ?_, ?_⟩
  ·subst hw; exact hR
  ·subst hw; exact ⟨rfl, rfl, rfl, Nat.le_refl _, fun _ _ _ => rfl⟩
 ·have hblk : g < w.heap.size := (Array.getElem?_eq_some_iff.1 hb).1
  have hflat : (flatK enc d.sz xs.toArray).toList = xs.flatMap enc := flatK_eq F.len xs
  have hH : HoldsK enc d.sz w g 0 xs.toArray := holds_block hb (by rw [hflat, size_flatK]; simpa using htk)
  have hcmp : CmpLays P gf cb enc d.sz cf g 0 xs.toArray.size w := by
   intro m os dk hdk x y
   refine hc x y _ fun c hcl hne => ?_
   unfold sortWorldK
   exact (grownBy_row (os := os) (flatK enc d.sz dk)).block c hcl (fun q => hne (by rw [q]; rfl))
  have hS := AnyQ.slices_SortFunc L d.sz aE zE enc F.len F.one cf hO gf cb g 0 cap xs.toArray w eg hcmp hH hblk (by simpa using hsz)
  rw [show xs.toArray.size = xs.length by simp] at hS
  refine hS.mono fun r W' ⟨he, d', n, os, ⟨hp1, _, hp2⟩, hs, hw⟩ => ⟨he, d'.toList, ?_, ?_, ?_, ?_⟩
  ·have e1 : d'.extract 0 xs.length = d' := by
    have : xs.length = d'.size := by rw [hp1]; simp
    rw [this]; exact Array.extract_size
   have e2 : xs.toArray.extract 0 xs.length = xs.toArray := by
    have : xs.length = xs.toArray.size := by simp
    conv => lhs; rw [this]
    exact Array.extract_size
   rw [e1, e2] at hp2
   simpa using hp2
  ·have hz : d'.size = xs.length := by rw [hp1]; simp
   rw [List.pairwise_iff_getElem]
   intro i j hi hj hij
   have hi' : i < d'.size := by simpa using hi
   have hj' : j < d'.size := by simpa using hj
   have := hs i j (Nat.zero_le _) hij (by omega)
   rw [getElem!_pos d' j hj', getElem!_pos d' i hi'] at this
   simpa using this
  ·rw [hw]
   refine F.row.mpr ⟨h0, ?_⟩
   have hlen : d'.toList.length = xs.length := by
    rw [Array.length_toList, hp1]
    simp
   have hfl : (flatK enc d.sz d').toList = d'.toList.flatMap enc := by have := flatK_eq F.len d'.toList; simpa using this
   have hsz2 : (flatK enc d.sz d').size = xs.length * d.sz := by rw [size_flatK, ← hlen]; simp
   rw [hlen]
   refine ⟨by rw [flat_length F.len, hlen], .inr ⟨g, cap, _, rfl, hg, block_sorted _ hb, hnc, hcm, by simp [putCells, hcs], ?_⟩⟩
   rw [← hfl, ← hsz2]
   refine take_cells cur _ ?_
   rw [hsz2, hcs]
   exact Nat.mul_le_mul_right _ hnc
  ·rw [hw]
   exact grownBy_row _
end
end Go.Proofs.YtaoichlepfiliaaGreatDoor.Kfl
end
section
namespace Go.Proofs.YtaoichlepfiliaaGreatDoor.Msh
open Go.RowKit Go.Sort Go.Proofs Go.Shelf Go.Proofs.YtaoichlepfiliaaGreatDoor.Mp
structure Picked {α τ : Type} (f : α → Option Value) (left : α → Prop) (pick : α → Value → Option τ) (xs : List τ) : Prop where
 mem : ∀ t, t ∈ xs ↔ ∃ k v, f k = some v ∧ ¬ left k ∧ pick k v = some t
 nd : xs.Nodup
section
variable {α τ : Type} {f : α → Option Value} {left : α → Prop} {pick : α → Value → Option τ} {xs : List τ}
theorem Picked.start : Picked f (fun x => (f x).isSome = true) pick [] := ⟨fun t => by
 constructor
 ·intro h; cases h
 ·rintro ⟨k, v, h1, h2, -⟩
  rw [h1] at h2; exact absurd rfl h2, List.nodup_nil⟩
theorem Picked.skip (h : Picked f left pick xs) {x : α} {v : Value} (hf : f x = some v) (hp : pick x v = none) : Picked f (fun y => left y ∧ y ≠ x) pick xs := ⟨fun t => by
 rw [h.mem]
 constructor
 ·rintro ⟨k, u, h1, h2, h3⟩
  exact ⟨k, u, h1, fun q => h2 q.1, h3⟩
 ·rintro ⟨k, u, h1, h2, h3⟩
  refine ⟨k, u, h1, fun q => h2 ⟨q, fun e => ?_⟩, h3⟩
  subst e
  rw [hf] at h1
  injection h1 with h1
  subst h1
  rw [hp] at h3; exact absurd h3 (by simp), h.nd⟩
theorem Picked.add (h : Picked f left pick xs) {x : α} {v : Value} {t : τ} (hf : f x = some v) (hl : left x) (hp : pick x v = some t) (hi : ∀ k u, pick k u = some t → k = x) : Picked f (fun y => left y ∧ y ≠ x) pick (xs ++ [t]) := ⟨fun s => by
 rw [List.mem_append, List.mem_singleton, h.mem]
 constructor
 ·rintro (⟨k, u, h1, h2, h3⟩ | rfl)
  ·exact ⟨k, u, h1, fun q => h2 q.1, h3⟩
  ·exact ⟨x, v, hf, fun q => q.2 rfl, hp⟩
 ·rintro ⟨k, u, h1, h2, h3⟩
  by_cases e : k = x
  ·subst e
   rw [hf] at h1
   injection h1 with h1
   subst h1
   rw [hp] at h3
   injection h3 with h3
   exact .inr h3.symm
  ·exact .inl ⟨k, u, h1, fun q => h2 ⟨q, e⟩, h3⟩, by
 rw [List.nodup_append]
 refine ⟨h.nd, by simp, fun a ha b hb e => ?_⟩
 rw [List.mem_singleton] at hb
 subst e hb
 obtain ⟨k, u, h1, h2, h3⟩ := (h.mem _).mp ha
 rw [hi k u h3] at h2
 exact h2 hl⟩
theorem Picked.done (h : Picked f left pick xs) (hd : ∀ x, ¬ left x) (t : τ) : t ∈ xs ↔ ∃ k v, f k = some v ∧ pick k v = some t := by
 rw [h.mem]
 exact ⟨fun ⟨k, v, h1, _, h3⟩ => ⟨k, v, h1, h3⟩, fun ⟨k, v, h1, h3⟩ => ⟨k, v, h1, hd k, h3⟩⟩
end
theorem ltOf_cmp3 (x y : Tr) : ltOf cmp3 x y = decide (lt3 x y) := by
 unfold ltOf
 by_cases h : lt3 x y
 ·rw [decide_eq_true h, decide_eq_true (cmp3_lt.mpr h)]
 ·rw [decide_eq_false h, decide_eq_false (fun q => h (cmp3_lt.mp q))]
theorem swo3 : SWO (ltOf cmp3) where
 irrefl x := by rw [ltOf_cmp3, decide_eq_false_iff_not]; exact lt3_irrefl x
 trans x y z h k := by
  rw [ltOf_cmp3, decide_eq_true_iff] at *
  exact lt3_trans h k
 ntrans x y z h k := by
  rw [ltOf_cmp3, decide_eq_false_iff_not] at *
  intro q
  rcases lt3_total x y with r | r | r
  ·exact h r
  ·rw [r] at q; exact k q
  ·exact k (lt3_trans r q)
theorem up_sorted {xs ys : List Tr} (hp : ys.Perm xs) (hs : ys.Pairwise fun a b => (ltOf cmp3) b a = false) (h : xs.Nodup) : Up ys := by
 refine (hs.and (hp.nodup_iff.mpr h)).imp fun {a b} hab => ?_
 rw [ltOf_cmp3, decide_eq_false_iff_not] at hab
 rcases lt3_total a b with r | r | r
 ·exact r
 ·exact absurd r hab.2
 ·exact absurd r hab.1
theorem sorted_eq {xs ys O : List Tr} (hp : ys.Perm xs) (hs : ys.Pairwise fun a b => (ltOf cmp3) b a = false) (hn : xs.Nodup) (hu : Up O) (h : ∀ t, t ∈ xs ↔ t ∈ O) : ys = O := up_eq (up_sorted hp hs hn) hu fun t => by rw [hp.mem_iff, h]
end Go.Proofs.YtaoichlepfiliaaGreatDoor.Msh
end
section
namespace Go.Proofs.YtaoichlepfiliaaGreatDoor.Msh
open Go.RowKit Go.Sort Go.Proofs Go.Shelf Go.Proofs.YtaoichlepfiliaaGreatDoor.Mp Go.Proofs.YtaoichlepfiliaaGreatDoor.Adm Go.Proofs.YtaoichlepfiliaaGreatDoor.Kfl Go.Proofs.YtaoichlepfiliaaGreatDoorW.PrintWords Go.Proofs.YtaoichlepfiliaaGreatDoorW.PrintLast
abbrev kTr : Kd Tr := Kd.pair (Kd.int .i64) (Kd.pair (Kd.int .i64) (Kd.int .i64))
abbrev kEd : Kd (Int × Int) := Kd.pair (Kd.int .i64) (Kd.int .i64)
def cT (t : Tr) : List Value := [.int .i64 t.1, .int .i64 t.2.1, .int .i64 t.2.2]
def cE (p : Int × Int) : List Value := [.int .i64 p.1, .int .i64 p.2]
theorem flatT : Flat kTr cT := (flat_int .i64).pair ((flat_int .i64).pair (flat_int .i64))
theorem flatE : Flat kEd cE := (flat_int .i64).pair (flat_int .i64)
abbrev anyB : Nat → Prop := fun _ => True
theorem grown_trans {w w1 w2 : World} {v : Option Nat} (h : Below w.heap.size w w1) (k : w1.grownBy w2 v) : w.grownBy w2 v := ⟨k.os.trans h.os, k.tape.trans h.tape, k.output.trans h.output, Nat.le_trans h.size k.size, fun q hq hn => (k.block q (Nat.lt_of_lt_of_le hq h.size) hn).trans (h.block q hq)⟩
theorem grown_below {w w1 : World} {B : Nat} {v : Option Nat} (k : w.grownBy w1 v) (hv : ∀ q, v = some q → B ≤ q) (hB : B ≤ w.heap.size) : Below B w w1 := ⟨k.os, k.tape, k.output, k.size, fun q hq => k.block q (Nat.lt_of_lt_of_le hq hB) (fun e => by have := hv q e.symm; omega)⟩
section
variable {ops : Array Oper} {rest : List Oper} {o : Oper} {a : Act} {Q : Exit → Act → World → Prop}
theorem wp_add1 {α : Type} {d : Kd α} {enc : α → List Value} (F : Flat d enc) {W : World} {base : Nat} (hgd : o.guard = none) (s x : Operand) (t e : TypeId) (z : Value) (bytes : Nat)
 (ho : o.op = .call { callee := .builtin .append, args := #[s, x], argTypes := #[t, t] }) (ht : Tryz.prog.underlying t = some (.slice e)) (hinfo : (Tryz.prog.info? e).map (fun i => (i.zero, i.size, i.bytes)) = some (some z, d.sz, bytes)) (hz : z.cells.size = d.sz) (hs0 : 0 < d.sz) (hb0 : 0 < bytes)
 {v : Value} {xs : List α} (p : α) {cs : Array Value} (hs : a.eval s = v) (hx : a.eval x = .slice (some ⟨W.heap.size, 0, none⟩) 1 1) (hcs : cs = (enc p).toArray) (HO : d.R e W base anyB v xs) (hbase : base ≤ W.heap.size) (hl : (xs.length + 1) * bytes ≤ 140737488355328)
 (h : ∀ v1 w1, d.R e w1 base anyB v1 (xs ++ [p]) → W.grownBy w1 v.ownBlock → wpList Tryz.prog ops Q rest (a.put o.dst v1) w1) : wpList Tryz.prog ops Q (o :: rest) a (W.alloc (.cells cs e)) := by
 subst hcs
 exact Kd.R_append d (w0 := W) base hgd s x t e z bytes ho ht hinfo hz hs0 hb0 v xs p (enc p) anyB (fun _ => False) hs hx ((F.M _ _ _ _ _).mpr rfl) (fun _ h => h.elim) (fun _ _ => trivial) HO (Below.refl _ _) hbase hl (fun v1 w1 h1 _ h3 _ => h v1 w1 h1 h3)
end
theorem row_keeps {α : Type} {d : Kd α} {e base b : Nat} {W w1 : World} {ok : Nat → Prop} {v : Value} {xs : List α} {o : Obj} (hv : d.R e W base ok v xs) (hg : W.grownBy w1 v.ownBlock) (hb : W.heap[b]? = some o) (ho : ∀ cs e fr, o ≠ .cells cs e fr) : w1.heap[b]? = some o := by
 refine (hg.block b (blk_lt hb) (fun q => ?_)).trans hb
 obtain ⟨inner, hi⟩ := Kd.R_own hv
 obtain ⟨cells, hc⟩ := own_typed hi b q.symm
 rw [hb] at hc
 injection hc with hc
 exact ho _ _ _ hc
set_option maxHeartbeats 1000000 in
theorem sortedTri_call {w : World} {base : Nat} {v : Value} {xs : List Tr} (hR : kTr.R 53 w base anyB v xs) (hsz : xs.length < 4611686018427387904) :
 Calls Tryz.prog 48 #[v, .func (.func 49) #[] #[]] w fun r w' => r = .returned v ∧ ∃ ys : List Tr, ys.Perm xs ∧ ys.Pairwise (fun a b => (ltOf cmp3) b a = false) ∧ kTr.R 53 w' base anyB v ys ∧ w.grownBy w' v.ownBlock := by
 have hlt := Kd.R_lt hR
 obtain ⟨W1, hW1⟩ : ∃ W1, W1 = w.alloc (.cells #[.func (.func 49) #[] #[]] 93) := ⟨_, rfl⟩
 have hB : Below w.heap.size w W1 := by rw [hW1]; exact below_alloc (Below.refl _ _) _
 have hbox : W1.heap[w.heap.size]? = some (.cells #[.func (.func 49) #[] #[]] 93 (0, 0)) := by rw [hW1]; exact blk_new _ _
 have eg : ∀ args w, (callFunc 82 args).run Tryz.prog w = .ok (.enter 82 args) w := enters_of Tryz.func82 (by kernel_rfl) rfl
 have hmf : ∀ (fn : Fn) (first cap : Array Value) (w : World), (Instr.makeFunc fn first cap).run Tryz.prog w = .ok (.func fn first cap) w := fun _ _ _ _ => rfl
 have hS := flatT.sort Srq.sortL Tryz.isAgg53 Tryz.sizeOf53 cmp3 swo3 82 #[.pointer (some ⟨w.heap.size, 0, none⟩)] eg (Kd.R_below hR hB) (fun x y W hW => by
  have hk : W.cell? ⟨w.heap.size, 0, none⟩ = some (.func (.func 49) #[] #[]) := by
   have := (hW w.heap.size (blk_lt hbox) (fun q => by have := hlt _ q.symm; omega)).trans hbox
   exact blk_cell this 0
  exact (sortTris_call w.heap.size x y W hk).mono fun r W' ⟨he, hg⟩ => ⟨he, hg.out⟩) hsz
 change Calls Tryz.prog 81 _ _ _ at hS
 subst hW1
 go_enter Tryz.func48, Tryz.ntmps48
 go_wp2_with (go_at_call 81; (with_reducible refine hS.mono ?_); rintro u_ w2 ⟨rfl, ys, h1, h2, h3, h4⟩)
 go_ret
 exact ⟨rfl, ys, h1, h2, h3, grown_trans hB h4⟩
theorem nodup_sub {α : Type} [DecidableEq α] : ∀ {l l' : List α}, l.Nodup → (∀ x ∈ l, x ∈ l') → l.length ≤ l'.length
 | [], _, _, _ => Nat.zero_le _
 | x :: a, b, h, hm => by
  obtain ⟨h1, h2⟩ := List.nodup_cons.mp h
  have hx := hm x (by simp)
  have := nodup_sub (l := a) (l' := b.erase x) h2 (fun y hy => (List.mem_erase_of_ne (fun h0 => h1 (by rw [← h0]; exact hy))).mpr (hm y (by simp [hy])))
  rw [List.length_erase_of_mem hx] at this
  have := List.length_pos_of_mem hx
  simp; omega
theorem pairs_size {n : Nat} {xs : List (Int × Int)} (hn : xs.Nodup) (hx : ∀ p ∈ xs, (0 ≤ p.1 ∧ p.1 < n) ∧ (0 ≤ p.2 ∧ p.2 < n)) : xs.length ≤ n * n := by
 have h1 : (xs.map fun p => p.1.toNat * n + p.2.toNat).Nodup := by
  unfold List.Nodup
  rw [List.pairwise_map]
  refine hn.imp_of_mem fun {a b} ha hb hab e => hab ?_
  obtain ⟨⟨a1, a2⟩, a3, a4⟩ := hx a ha
  obtain ⟨⟨b1, b2⟩, b3, b4⟩ := hx b hb
  obtain ⟨x, hx⟩ : ∃ x : Nat, a.1 = x := ⟨a.1.toNat, by omega⟩
  obtain ⟨y, hy⟩ : ∃ y : Nat, a.2 = y := ⟨a.2.toNat, by omega⟩
  obtain ⟨u, hu⟩ : ∃ u : Nat, b.1 = u := ⟨b.1.toNat, by omega⟩
  obtain ⟨v, hv⟩ : ∃ v : Nat, b.2 = v := ⟨b.2.toNat, by omega⟩
  rw [hx, hy, hu, hv] at e
  simp only [Int.toNat_natCast] at e
  have hyn : y < n := by omega
  have hvn : v < n := by omega
  have e1 : (x * n + y) % n = (u * n + v) % n := by rw [e]
  rw [Nat.mul_comm x, Nat.mul_comm u, Nat.mul_add_mod, Nat.mul_add_mod, Nat.mod_eq_of_lt hyn, Nat.mod_eq_of_lt hvn] at e1
  subst e1
  have e2 : x * n = u * n := by omega
  have e3 := Nat.eq_of_mul_eq_mul_right (by omega) e2
  exact Prod.ext (by rw [hx, hu, e3]) (by rw [hy, hv])
 have h2 := nodup_sub h1 (l' := List.range (n * n)) (fun k hk => by
  obtain ⟨p, hp, rfl⟩ := List.mem_map.mp hk
  obtain ⟨⟨a1, a2⟩, a3, a4⟩ := hx p hp
  rw [List.mem_range]
  have h3 : p.1.toNat + 1 ≤ n := by omega
  have h4 := Nat.mul_le_mul_right n h3
  rw [Nat.add_mul] at h4
  omega)
 rw [List.length_map, List.length_range] at h2
 exact h2
end Go.Proofs.YtaoichlepfiliaaGreatDoor.Msh
end
