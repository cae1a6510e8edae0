/- Lemmas of Mmp. Conditions stand in each. -/
import Derived.Maps.Range
import Derived.Below
import Derived.Tactics
import Derived.Maps.RangeWalk
import Derived.RowKit
set_option linter.unusedSimpArgs false
set_option linter.unusedVariables false
section
namespace Go.Proofs.YtaoichlepfiliaaGreatDoor.Mp
open Go.ChangeMaps Go.MapKept Go.RowKit
open Go.Maps (Keyed)
structure Key (P : Program) (K : TypeId) {α : Type} (enc : α → Value) (ok : α → Prop) : Prop where
 law : Keyed P K
 of : ∀ x, ok x → ∃ l, keyOf P K (enc x) = some l
 inj : ∀ x y, enc x = enc y → x = y
structure Fn {α : Type} (enc : α → Value) (ok : α → Prop) (es : Array MapEntry) (clock : Nat) (f : α → Option Value) : Prop where
 stamped : Stamped es clock
 key : ∀ e ∈ es.toList, ∃ x, ok x ∧ e.key = enc x ∧ f x = some e.val
 has : ∀ x v, f x = some v → ∃ e ∈ es.toList, e.key = enc x ∧ e.val = v
def MapF {α : Type} (enc : α → Value) (ok : α → Prop) (w : World) (b : Nat) (f : α → Option Value) : Prop := ∃ es clock, w.heap[b]? = some (.map es clock) ∧ Fn enc ok es clock f
section
variable {P : Program} {K E T : TypeId} {α : Type} {enc : α → Value} {ok : α → Prop} {w w' : World} {b : Nat} {f : α → Option Value} {es : Array MapEntry} {clock : Nat}
theorem MapF.lt (h : MapF enc ok w b f) : b < w.heap.size := by
 obtain ⟨es, clock, hb, -⟩ := h
 exact (Array.getElem?_eq_some_iff.1 hb).1
theorem MapF.move (h : MapF enc ok w b f) (hm : w'.heap[b]? = w.heap[b]?) : MapF enc ok w' b f := by
 obtain ⟨es, clock, hb, F⟩ := h
 exact ⟨es, clock, hm.trans hb, F⟩
theorem MapF.below (h : MapF enc ok w b f) (hb : Below w.heap.size w w') : MapF enc ok w' b f := h.move (hb.block b h.lt)
theorem MapF.made (w : World) : MapF enc ok (w.alloc (.map #[] 0)) w.heap.size (fun _ => none) :=
 ⟨#[], 0, (MapKept.heap_alloc w _).1, stamped_empty 0, by simp, by simp⟩
theorem Fn.keys (k : Key P K enc ok) (F : Fn enc ok es clock f) : ∀ e ∈ es.toList, ∃ l, keyOf P K e.key = some l := fun e he => by
 obtain ⟨x, hx, h, -⟩ := F.key e he
 rw [h]
 exact k.of x hx
theorem Fn.find (k : Key P K enc ok) (F : Fn enc ok es clock f) (w : World) {x : α} (hx : ok x) :
 (f x = none ∧ (Instr.findKey K (enc x) es.toList).run P w = .ok none w ∧ ∀ e ∈ es.toList, e.key ≠ enc x) ∨
 ∃ j e, f x = some e.val ∧ (Instr.findKey K (enc x) es.toList).run P w = .ok (some (j, e.val)) w ∧ es.toList[j]? = some e ∧ e.key = enc x := by
 obtain ⟨l, hl⟩ := k.of x hx
 rcases k.law.find w hl es.toList (F.keys k) with ⟨h1, h2⟩ | ⟨j, e, h1, h2, h3⟩
 ·refine .inl ⟨?_, h1, h2⟩
  cases hf : f x with
  | none => rfl
  | some v =>
   obtain ⟨e, he, h3, -⟩ := F.has x v hf
   exact absurd h3 (h2 e he)
 ·refine .inr ⟨j, e, ?_, h1, h2, h3⟩
  obtain ⟨y, -, h4, h5⟩ := F.key e (List.mem_of_getElem? h2)
  rw [k.inj x y (h3.symm.trans h4)]
  exact h5
theorem MapF.lookup (k : Key P K enc ok) (ht : P.underlying T = some (.map K E)) {z : Value} (hz : (zeroValue E).run P w = .ok z w) (h : MapF enc ok w b f) {x : α} (hx : ok x) (c : Bool) :
 (Instr.lookup T (.map (some b)) (enc x) c).run P w = .ok (if c then .tuple #[(f x).getD z, .bool (f x).isSome] else (f x).getD z) w := by
 obtain ⟨es, clock, hb, F⟩ := h
 obtain ⟨l, hl⟩ := k.of x hx
 have hc := k.law.check w es.isEmpty hl
 rcases F.find k w hx with ⟨h1, h2, -⟩ | ⟨j, e, h1, h2, -, -⟩
 ·rw [h1]
  simp [Instr.lookup, run_underlying ht, MapKept.run_getObj_map hb, hc, h2, hz, Result.andThen, Sem.run_bind]
 ·rw [h1]
  simp [Instr.lookup, run_underlying ht, MapKept.run_getObj_map hb, hc, h2, Result.andThen, Sem.run_bind]
def upd [DecidableEq α] (f : α → Option Value) (x : α) (v : Option Value) : α → Option Value := fun y => if y = x then v else f y
theorem MapF.update [DecidableEq α] (k : Key P K enc ok) (ht : P.underlying T = some (.map K E)) (h : MapF enc ok w b f) {x : α} (hx : ok x) (v : Value) :
 ∃ o, (Instr.mapUpdate T (.map (some b)) (enc x) v).run P w = .ok () (setBlock w b o) ∧ MapF enc ok (setBlock w b o) b (upd f x (some v)) := by
 have hlt := h.lt
 obtain ⟨es, clock, hb, F⟩ := h
 obtain ⟨l, hl⟩ := k.of x hx
 have hc := k.law.check w false hl
 have hset : ∀ o, (setBlock w b o).heap[b]? = some o := fun o => by simp [setBlock, hlt]
 rcases F.find k w hx with ⟨h1, h2, h3⟩ | ⟨j, e0, h1, h2, h3, h4⟩
 ·refine ⟨.map (es.push ⟨enc x, v, clock⟩) (clock + 1), ?_, _, _, hset _, stamped_push F.stamped h3, fun e he => ?_, fun y u hy => ?_⟩
  ·simp [Instr.mapUpdate, run_underlying ht, MapKept.run_getObj_map hb, hc, h2, MapKept.run_setObj_map _ hb, Result.andThen, setBlock]
  ·rw [Array.toList_push, List.mem_append, List.mem_singleton] at he
   rcases he with he | rfl
   ·obtain ⟨y, hy, e1, e2⟩ := F.key e he
    exact ⟨y, hy, e1, by unfold upd; rw [if_neg (fun q => h3 e he (by rw [e1, q]))]; exact e2⟩
   ·exact ⟨x, hx, rfl, by unfold upd; rw [if_pos rfl]⟩
  ·unfold upd at hy
   rw [Array.toList_push]
   split at hy
   ·rename_i q
    subst q
    exact ⟨_, List.mem_append_right _ (List.mem_singleton.mpr rfl), rfl, by simpa using hy⟩
   ·obtain ⟨e, he, e1, e2⟩ := F.has y u hy
    exact ⟨e, List.mem_append_left _ he, e1, e2⟩
 ·have hes : es[j]? = some e0 := by rw [← Array.getElem?_toList]; exact h3
  have hm0 : e0 ∈ es.toList := List.mem_of_getElem? h3
  have hnk := ((stamped_iff es clock).1 F.stamped).2.2
  have hmod : ∀ e : MapEntry, e ∈ (es.modify j fun e => { e with key := enc x, val := v }).toList ↔ (e ∈ es.toList ∧ e.key ≠ enc x) ∨ e = { e0 with key := enc x, val := v } := fun e => by
   rw [List.mem_iff_getElem?]
   simp only [Array.getElem?_toList, Array.getElem?_modify]
   constructor
   ·rintro ⟨i, hi⟩
    split at hi
    ·rename_i q
     subst q
     rw [hes] at hi
     simp at hi
     exact .inr hi.symm
    ·rename_i q
     refine .inl ⟨by rw [← Array.getElem?_toList] at hi; exact List.mem_of_getElem? hi, fun hk => ?_⟩
     rw [← Array.getElem?_toList] at hi
     obtain ⟨i1, i2⟩ := List.getElem?_eq_some_iff.mp hi
     obtain ⟨j1, j2⟩ := List.getElem?_eq_some_iff.mp h3
     rcases Nat.lt_trichotomy i j with r | r | r
     ·exact List.pairwise_iff_getElem.mp hnk i j i1 j1 r (by rw [i2, j2, hk, h4])
     ·exact q r.symm
     ·exact List.pairwise_iff_getElem.mp hnk j i j1 i1 r (by rw [i2, j2, hk, h4])
   ·rintro (⟨h5, h6⟩ | rfl)
    ·obtain ⟨i, i1⟩ := List.mem_iff_getElem?.mp h5
     refine ⟨i, ?_⟩
     rw [if_neg (fun q => ?_)]
     ·rw [← Array.getElem?_toList]; exact i1
     ·subst q
      rw [h3] at i1
      injection i1 with i1
      exact h6 (by rw [← i1]; exact h4)
    ·exact ⟨j, by rw [if_pos rfl, hes]; rfl⟩
  refine ⟨.map (es.modify j fun e => { e with key := enc x, val := v }) clock, ?_, _, _, hset _, stamped_modify F.stamped j _ (fun _ _ => rfl) (fun e he hj => ?_), fun e he => ?_, fun y u hy => ?_⟩
  ·have hs := k.law.stays w hl
   simp [Instr.mapUpdate, run_underlying ht, MapKept.run_getObj_map hb, hc, h2, hes, h4, hs, MapKept.run_setObj_map _ hb, Result.andThen, setBlock]
  ·rw [hes] at hj
   injection hj with hj
   rw [← hj]
   exact h4.symm
  ·rcases (hmod e).mp he with ⟨h5, h6⟩ | rfl
   ·obtain ⟨y, hy, e1, e2⟩ := F.key e h5
    exact ⟨y, hy, e1, by unfold upd; rw [if_neg (fun q => h6 (by rw [e1, q]))]; exact e2⟩
   ·exact ⟨x, hx, rfl, by unfold upd; rw [if_pos rfl]⟩
  ·unfold upd at hy
   split at hy
   ·rename_i q
    subst q
    exact ⟨_, (hmod _).mpr (.inr rfl), rfl, by simpa using hy⟩
   ·rename_i q
    obtain ⟨e, he, e1, e2⟩ := F.has y u hy
    exact ⟨e, (hmod e).mpr (.inl ⟨he, fun r => q (k.inj y x (e1.symm.trans r))⟩), e1, e2⟩
theorem MapF.delete [DecidableEq α] (k : Key P K enc ok) (ht : P.underlying T = some (.map K E)) (h : MapF enc ok w b f) {x : α} (hx : ok x) (ty : TypeId) (kt : TypeId) :
 ∃ o, (Builtin.delete_ #[T, kt] ty #[.map (some b), enc x]).run P w = .ok (.tuple #[]) (setBlock w b o) ∧ MapF enc ok (setBlock w b o) b (upd f x none) := by
 have hlt := h.lt
 obtain ⟨es, clock, hb, F⟩ := h
 obtain ⟨l, hl⟩ := k.of x hx
 have hc := k.law.check w es.isEmpty hl
 have hset : ∀ o, (setBlock w b o).heap[b]? = some o := fun o => by simp [setBlock, hlt]
 rcases F.find k w hx with ⟨h1, h2, h3⟩ | ⟨j, e0, h1, h2, h3, h4⟩
 ·refine ⟨.map es clock, ?_, _, _, hset _, F.stamped, fun e he => ?_, fun y u hy => ?_⟩
  ·simp [Builtin.delete_, run_underlying ht, MapKept.run_getObj_map hb, hc, h2, MapKept.run_setObj_map _ hb, Result.andThen, setBlock]
  ·obtain ⟨y, hy, e1, e2⟩ := F.key e he
   exact ⟨y, hy, e1, by unfold upd; rw [if_neg (fun q => h3 e he (by rw [e1, q]))]; exact e2⟩
  ·unfold upd at hy
   split at hy
   ·cases hy
   ·exact F.has y u hy
 ·have hes : es[j]? = some e0 := by rw [← Array.getElem?_toList]; exact h3
  have hnk := ((stamped_iff es clock).1 F.stamped).2.2
  have hj : j < es.size := (Array.getElem?_eq_some_iff.1 hes).1
  have hmem : ∀ e, e ∈ (es.eraseIdxIfInBounds j).toList ↔ e ∈ es.toList ∧ e.key ≠ enc x := fun e => by
   rw [Array.eraseIdxIfInBounds, dif_pos hj, Array.toList_eraseIdx, List.mem_eraseIdx_iff_getElem?]
   constructor
   ·rintro ⟨i, hi, h5⟩
    refine ⟨List.mem_of_getElem? h5, fun hk => ?_⟩
    obtain ⟨i1, i2⟩ := List.getElem?_eq_some_iff.mp h5
    obtain ⟨j1, j2⟩ := List.getElem?_eq_some_iff.mp h3
    rcases Nat.lt_trichotomy i j with r | r | r
    ·exact List.pairwise_iff_getElem.mp hnk i j i1 j1 r (by rw [i2, j2, hk, h4])
    ·exact hi r
    ·exact List.pairwise_iff_getElem.mp hnk j i j1 i1 r (by rw [i2, j2, hk, h4])
   ·rintro ⟨h5, h6⟩
    obtain ⟨i, i1⟩ := List.mem_iff_getElem?.mp h5
    refine ⟨i, fun q => ?_, i1⟩
    subst q
    rw [h3] at i1
    injection i1 with i1
    exact h6 (by rw [← i1]; exact h4)
  refine ⟨.map (es.eraseIdxIfInBounds j) clock, ?_, _, _, hset _, stamped_erase F.stamped j, fun e he => ?_, fun y u hy => ?_⟩
  ·simp [Builtin.delete_, run_underlying ht, MapKept.run_getObj_map hb, hc, h2, MapKept.run_setObj_map _ hb, Result.andThen, setBlock]
  ·obtain ⟨h5, h6⟩ := (hmem e).mp he
   obtain ⟨y, hy, e1, e2⟩ := F.key e h5
   exact ⟨y, hy, e1, by unfold upd; rw [if_neg (fun q => h6 (by rw [e1, q]))]; exact e2⟩
  ·unfold upd at hy
   split at hy
   ·cases hy
   ·rename_i q
    obtain ⟨e, he, e1, e2⟩ := F.has y u hy
    exact ⟨e, (hmem e).mpr ⟨he, fun r => q (k.inj y x (e1.symm.trans r))⟩, e1, e2⟩
theorem below_block {B : Nat} (hB : B ≤ b) (o : Obj) : Below B w (setBlock w b o) := ⟨rfl, rfl, rfl, by simp [setBlock], fun k hk => by simp only [setBlock]; rw [Array.getElem?_setIfInBounds_ne (by omega)]⟩
theorem other_block {c : Nat} (hc : c ≠ b) (o : Obj) : (setBlock w b o).heap[c]? = w.heap[c]? := by simp only [setBlock]; rw [Array.getElem?_setIfInBounds_ne (by omega)]
def Rang (enc : α → Value) (ok : α → Prop) (w : World) (b r : Nat) (f : α → Option Value) (left : α → Prop) : Prop :=
 ∃ es clock since seen c0, w.heap[b]? = some (.map es clock) ∧ Fn enc ok es clock f ∧ w.heap[r]? = some (.mapIter (some b) since seen c0) ∧ (∀ e ∈ es.toList, e.born < since) ∧ since ≤ c0 ∧ since ≤ clock ∧ ∀ x, left x ↔ ∃ e ∈ es.toList, e.key = enc x ∧ seen.contains e.born = false
theorem Rang.lt {r : Nat} {left : α → Prop} (h : Rang enc ok w b r f left) : r < w.heap.size ∧ b < w.heap.size := by
 obtain ⟨es, clock, since, seen, c0, h1, -, h3, -⟩ := h
 exact ⟨(Array.getElem?_eq_some_iff.1 h3).1, (Array.getElem?_eq_some_iff.1 h1).1⟩
theorem Rang.move {r : Nat} {left : α → Prop} (h : Rang enc ok w b r f left) (hb : w'.heap[b]? = w.heap[b]?) (hr : w'.heap[r]? = w.heap[r]?) : Rang enc ok w' b r f left := by
 obtain ⟨es, clock, since, seen, c0, h1, h2, h3, h4⟩ := h
 exact ⟨es, clock, since, seen, c0, hb.trans h1, h2, hr.trans h3, h4⟩
theorem MapF.range (k : Key P K enc ok) (ht : P.underlying T = some (.map K E)) (h : MapF enc ok w b f) :
 ∃ o, (Instr.range T (.map (some b))).run P w = .ok (.pointer (some ⟨w.heap.size, 0, none⟩)) (w.alloc o) ∧ Rang enc ok (w.alloc o) b w.heap.size f (fun x => (f x).isSome = true) := by
 have hlt := h.lt
 obtain ⟨es, clock, hb, F⟩ := h
 refine ⟨_, run_range_map w T K E b es clock ht hb, es, clock, clock, #[], clock, ((MapKept.heap_alloc w _).2 b hlt).trans hb, F, (MapKept.heap_alloc w _).1, F.stamped.1, Nat.le_refl _, Nat.le_refl _, fun x => ⟨fun hx => ?_, fun hx => ?_⟩⟩
 ·obtain ⟨v, hv⟩ := Option.isSome_iff_exists.mp hx
  obtain ⟨e, he, h1, -⟩ := F.has x v hv
  exact ⟨e, he, h1, by simp⟩
 ·obtain ⟨e, he, h1, -⟩ := hx
  obtain ⟨y, -, h2, h3⟩ := F.key e he
  rw [k.inj x y (h1.symm.trans h2), h3]
  rfl
theorem Rang.next (k : Key P K enc ok) {r : Nat} {left : α → Prop} (h : Rang enc ok w b r f left) (ty : TypeId) :
 ((∀ x, ¬ left x) ∧ (Instr.next (.pointer (some ⟨r, 0, none⟩)) false ty).run P w = .ok (.tuple #[.bool false]) w) ∨
 ∃ x v w1 o, ok x ∧ left x ∧ f x = some v ∧ (w1 = w ∨ w1 = w.drew) ∧ (Instr.next (.pointer (some ⟨r, 0, none⟩)) false ty).run P w = .ok (.tuple #[.bool true, enc x, v]) (setBlock w1 r o) ∧ Rang enc ok (setBlock w1 r o) b r f (fun y => left y ∧ y ≠ x) ∧
  (setBlock w1 r o).rangeLeft b r < w.rangeLeft b r ∧ (Instr.entry (.pointer (some ⟨r, 0, none⟩))).run P (setBlock w1 r o) = .ok (.tuple #[enc x, v]) (setBlock w1 r o) := by
 obtain ⟨es, clock, since, seen, c0, hb, F, hr, hold, hsc, hsk, hl⟩ := h
 have hne : b ≠ r := fun e => by rw [e, hr] at hb; cases hb
 have hst := (stamped_iff es clock).1 F.stamped
 rcases run_next_at (P := P) w ty r b since c0 seen es clock hr hb hold hsc with ⟨h0, hrun⟩ | ⟨e, he, w1, hal, hrun⟩
 ·refine .inl ⟨fun x hx => ?_, hrun⟩
  obtain ⟨e, he, -, h2⟩ := (hl x).mp hx
  rw [all_seen es seen h0 e he] at h2
  cases h2
 ·obtain ⟨hem, hes⟩ := mem_left he
  obtain ⟨x, hx, h1, h2⟩ := F.key e hem
  have hr1 : w1.heap[r]? = some (.mapIter (some b) since seen c0) := by rcases hal with rfl | rfl <;> exact hr
  have hb1 : w1.heap[b]? = some (.map es clock) := by rcases hal with rfl | rfl <;> exact hb
  have hset := heap_set (o' := .mapIter (some b) since (seen.push e.born) clock) hr1
  have hset1 : (setBlock w1 r (.mapIter (some b) since (seen.push e.born) clock)).heap[r]? = some (.mapIter (some b) since (seen.push e.born) clock) := hset.1
  have hb' : (setBlock w1 r (.mapIter (some b) since (seen.push e.born) clock)).heap[b]? = some (.map es clock) := (hset.2 b hne).trans hb1
  rw [h1] at hrun
  have hen := run_entry_at (P := P) _ r b since seen es clock e hset.1 hb' hem hst.2.1
  rw [h1] at hen
  refine .inr ⟨x, e.val, w1, _, hx, (hl x).mpr ⟨e, hem, h1, hes⟩, h2, hal, hrun, ⟨es, clock, since, seen.push e.born, clock, hb', F, hset.1, hold, hsk, hsk, fun y => ?_⟩, ?_, hen⟩
  ·show left y ∧ y ≠ x ↔ _
   rw [hl y]
   constructor
   ·rintro ⟨⟨d, hd, h3, h4⟩, h5⟩
    refine ⟨d, hd, h3, ?_⟩
    rw [contains_push, h4, Bool.false_or]
    refine beq_eq_false_iff_ne.mpr fun q => h5 ?_
    have : d = e := by
     have h6 := hst.2.1
     exact born_inj h6 hd hem q
    rw [this, h1] at h3
    exact (k.inj _ _ h3).symm
   ·rintro ⟨d, hd, h3, h4⟩
    rw [contains_push, Bool.or_eq_false_iff] at h4
    refine ⟨⟨d, hd, h3, h4.1⟩, fun q => ?_⟩
    subst q
    have : d = e := entry_eq_of_key hst.2.2 hd hem (h3.trans h1.symm)
    rw [this] at h4
    simp at h4
  ·have e1 : (setBlock w1 r (.mapIter (some b) since (seen.push e.born) clock)).rangeLeft b r = (leftOf es (seen.push e.born)).size := by unfold World.rangeLeft; rw [hb', hset1]
   have e2 : w.rangeLeft b r = (leftOf es seen).size := by unfold World.rangeLeft; rw [hb, hr]
   rw [e1, e2]
   exact left_shrinks es seen e he
end
section
variable {P : Program} {K E T : TypeId} {α : Type} {enc : α → Value} {ok : α → Prop} {w : World} {b : Nat} {f : α → Option Value}
variable {ops : Array Oper} {rest : List Oper} {o : Oper} {a : Act} {Q : Exit → Act → World → Prop}
theorem wp_lookup2 (k : Key P K enc ok) (ht : P.underlying T = some (.map K E)) {z : Value} (hz : ∀ W, (zeroValue E).run P W = .ok z W) (hg : o.guard = none) (m x : Operand) (hop : o.op = Op.lookup T m x true) (hm : a.eval m = .map (some b)) {y : α} (hx : a.eval x = enc y)
 (h : MapF enc ok w b f) (hy : ok y) {v : Value} {q : Bool} (hv : (f y).getD z = v) (hq : (f y).isSome = q) (hK : wpList P ops Q rest (a.put o.dst (.tuple #[v, .bool q])) w) : wpList P ops Q (o :: rest) a w := by
 subst hv hq
 refine wpList_plain hg fun K' hK' => ?_
 have hrun := h.lookup k ht (hz w) hy true
 unfold Oper.wp
 simp [execOp, hop, hm, hx, hrun, Result.andThen]
 exact hK' _ _ hK
theorem wp_range (k : Key P K enc ok) (ht : P.underlying T = some (.map K E)) (hg : o.guard = none) (m : Operand) (hop : o.op = Op.range T m) (hm : a.eval m = .map (some b)) (h : MapF enc ok w b f)
 (hK : ∀ W', Rang enc ok W' b w.heap.size f (fun x => (f x).isSome = true) → Below w.heap.size w W' → wpList P ops Q rest (a.put o.dst (.pointer (some ⟨w.heap.size, 0, none⟩))) W') : wpList P ops Q (o :: rest) a w := by
 obtain ⟨ob, hrun, h2⟩ := h.range k ht
 refine wpList_plain hg fun K' hK' => ?_
 unfold Oper.wp
 simp [execOp, hop, hm, hrun, Result.andThen]
 exact hK' _ _ (hK _ h2 ((Below.refl _ _).alloc (Nat.le_refl _) _))
theorem wp_next (k : Key P K enc ok) (hg : o.guard = none) (it : Operand) (hop : o.op = Op.next it false) {r : Nat} {left : α → Prop} (hit : a.eval it = .pointer (some ⟨r, 0, none⟩)) (h : Rang enc ok w b r f left)
 (hDone : (∀ x, ¬ left x) → wpList P ops Q rest (a.put o.dst (.tuple #[.bool false])) w)
 (hMore : ∀ x v W', ok x → left x → f x = some v → Rang enc ok W' b r f (fun y => left y ∧ y ≠ x) → W'.rangeLeft b r < w.rangeLeft b r → (∀ B, B ≤ r → Below B w W') → (∀ c, c ≠ r → W'.heap[c]? = w.heap[c]?) → (Instr.entry (.pointer (some ⟨r, 0, none⟩))).run P W' = .ok (.tuple #[enc x, v]) W' → wpList P ops Q rest (a.put o.dst (.tuple #[.bool true, enc x, v])) W') :
 wpList P ops Q (o :: rest) a w := by
 refine wpList_plain hg fun K' hK' => ?_
 unfold Oper.wp
 rcases h.next k o.type with ⟨hl, hrun⟩ | ⟨x, v, w1, ob, hx, hl, hf, hal, hrun, h2, h3, h4⟩
 ·simp [execOp, hop, hit, hrun, Result.andThen]
  exact hK' _ _ (hDone hl)
 ·simp [execOp, hop, hit, hrun, Result.andThen]
  refine hK' _ _ (hMore x v _ hx hl hf h2 h3 (fun B hB => ?_) (fun c hc => ?_) h4)
  ·rcases hal with rfl | rfl
   ·exact below_block hB ob
   ·exact below_block (w := w.drew) hB ob |> fun q => ⟨q.os, q.tape, q.output, q.size, q.block⟩
  ·rcases hal with rfl | rfl
   ·exact other_block hc ob
   ·exact other_block (w := w.drew) hc ob
end
end Go.Proofs.YtaoichlepfiliaaGreatDoor.Mp
end
section
namespace Go.Proofs.YtaoichlepfiliaaGreatDoor.Msh
open Go.RowKit
structure Fr (M : Nat → Prop) (w w' : World) : Prop where
 os : w'.os = w.os
 tape : w'.tape = w.tape
 output : w'.output = w.output
 size : w.heap.size ≤ w'.heap.size
 block : ∀ k, k < w.heap.size → ¬ M k → w'.heap[k]? = w.heap[k]?
theorem Fr.refl (M : Nat → Prop) (w : World) : Fr M w w := ⟨rfl, rfl, rfl, Nat.le_refl _, fun _ _ _ => rfl⟩
theorem Fr.trans {M M' : Nat → Prop} {a b c : World} (h : Fr M a b) (k : Fr M' b c) (hm : ∀ q, q < a.heap.size → M' q → M q) : Fr M a c :=
 ⟨k.os.trans h.os, k.tape.trans h.tape, k.output.trans h.output, Nat.le_trans h.size k.size, fun q hq hn => (k.block q (Nat.lt_of_lt_of_le hq h.size) (fun r => hn (hm q hq r))).trans (h.block q hq hn)⟩
theorem Fr.of_below {M : Nat → Prop} {a b : World} (h : Below a.heap.size a b) : Fr M a b := ⟨h.os, h.tape, h.output, h.size, fun q hq _ => h.block q hq⟩
theorem Fr.below {M : Nat → Prop} {B : Nat} {a b : World} (h : Fr M a b) (hB : ∀ q, M q → B ≤ q) (hs : B ≤ a.heap.size) : Below B a b := ⟨h.os, h.tape, h.output, h.size, fun q hq => h.block q (by omega) (fun r => by have := hB q r; omega)⟩
end Go.Proofs.YtaoichlepfiliaaGreatDoor.Msh
end
section
namespace Go.Proofs.YtaoichlepfiliaaGreatDoor.Msh
abbrev Tr := Int × Int × Int
def rot (t : Tr) : Tr := (t.2.1, t.2.2, t.1)
def Lo (t : Tr) : Prop := t.1 ≤ t.2.1 ∧ t.1 ≤ t.2.2
instance (t : Tr) : Decidable (Lo t) := by unfold Lo; exact inferInstance
def own (t : Tr) : Tr := if Lo t then t else if Lo (rot t) then rot t else rot (rot t)
def Ds (t : Tr) : Prop := t.1 ≠ t.2.1 ∧ t.2.1 ≠ t.2.2 ∧ t.2.2 ≠ t.1
def lt3 (s t : Tr) : Prop := s.1 < t.1 ∨ s.1 = t.1 ∧ (s.2.1 < t.2.1 ∨ s.2.1 = t.2.1 ∧ s.2.2 < t.2.2)
instance (s t : Tr) : Decidable (lt3 s t) := by unfold lt3; exact inferInstance
theorem rot3 (t : Tr) : rot (rot (rot t)) = t := rfl
theorem lt3_irrefl (t : Tr) : ¬ lt3 t t := by unfold lt3; omega
theorem lt3_trans {a b c : Tr} (h : lt3 a b) (k : lt3 b c) : lt3 a c := by unfold lt3 at *; omega
theorem lt3_total (a b : Tr) : lt3 a b ∨ a = b ∨ lt3 b a := by
 obtain ⟨a0, a1, a2⟩ := a
 obtain ⟨b0, b1, b2⟩ := b
 unfold lt3
 simp only [Prod.mk.injEq]
 omega
theorem lo_own (t : Tr) : Lo (own t) := by
 unfold own
 by_cases h : Lo t
 ·rw [if_pos h]; exact h
 ·rw [if_neg h]
  by_cases k : Lo (rot t)
  ·rw [if_pos k]; exact k
  ·rw [if_neg k]; unfold Lo rot at *; simp only at *; omega
theorem own_cases (t : Tr) : own t = t ∨ own t = rot t ∨ own t = rot (rot t) := by
 unfold own
 by_cases h : Lo t
 ·rw [if_pos h]; exact .inl rfl
 ·rw [if_neg h]
  by_cases k : Lo (rot t)
  ·rw [if_pos k]; exact .inr (.inl rfl)
  ·rw [if_neg k]; exact .inr (.inr rfl)
theorem ds_rot {t : Tr} (h : Ds t) : Ds (rot t) := by unfold Ds rot at *; simp only at *; omega
theorem ds_own {t : Tr} (h : Ds t) : Ds (own t) := by
 rcases own_cases t with e | e | e <;> rw [e]
 ·exact h
 ·exact ds_rot h
 ·exact ds_rot (ds_rot h)
theorem lo_unique {t : Tr} (hd : Ds t) (h : Lo t) : ¬ Lo (rot t) ∧ ¬ Lo (rot (rot t)) := by unfold Lo Ds rot at *; simp only at *; omega
theorem own_of_lo {t : Tr} (h : Lo t) : own t = t := by unfold own; rw [if_pos h]
theorem own_rot {t : Tr} (hd : Ds t) : own (rot t) = own t := by
 have key : ∀ s : Tr, Ds s → Lo s → own s = s ∧ own (rot s) = s ∧ own (rot (rot s)) = s := fun s hs hl => by
  obtain ⟨n1, n2⟩ := lo_unique hs hl
  refine ⟨own_of_lo hl, ?_, ?_⟩
  ·unfold own; rw [if_neg n1, if_neg n2]; rfl
  ·unfold own; rw [if_neg n2, if_pos (show Lo (rot (rot (rot s))) from hl)]; rfl
 have hl := lo_own t
 have hs := ds_own hd
 rcases own_cases t with e | e | e
 ·have k := key t hd (e ▸ hl); rw [k.2.1, k.1]
 ·have k := key (rot t) (ds_rot hd) (e ▸ hl); rw [k.1, e]
 ·have k := key (rot (rot t)) (ds_rot (ds_rot hd)) (e ▸ hl)
  rw [e]
  have := k.2.2
  rw [rot3] at this
  exact this
theorem rot_of_own {s t : Tr} (h : own s = own t) : s = t ∨ s = rot t ∨ s = rot (rot t) := by
 rcases own_cases s with e | e | e <;> rcases own_cases t with f | f | f <;> rw [e, f] at h <;> obtain ⟨s0, s1, s2⟩ := s <;> obtain ⟨t0, t1, t2⟩ := t <;> simp only [rot, Prod.mk.injEq] at h ⊢ <;> omega
def Up (l : List Tr) : Prop := l.Pairwise lt3
theorem up_nodup {l : List Tr} (h : Up l) : l.Nodup := h.imp fun {a b} hab e => by rw [e] at hab; exact lt3_irrefl _ hab
theorem up_eq : ∀ {a b : List Tr}, Up a → Up b → (∀ x, x ∈ a ↔ x ∈ b) → a = b
 | [], [], _, _, _ => rfl
 | [], y :: _, _, _, h => absurd ((h y).mpr (by simp)) (by simp)
 | x :: _, [], _, _, h => absurd ((h x).mp (by simp)) (by simp)
 | x :: a, y :: b, ha, hb, h => by
  obtain ⟨ha1, ha2⟩ := List.pairwise_cons.mp ha
  obtain ⟨hb1, hb2⟩ := List.pairwise_cons.mp hb
  have e : x = y := by
   rcases List.mem_cons.mp ((h x).mp (by simp)) with k | k
   ·exact k
   ·rcases List.mem_cons.mp ((h y).mpr (by simp)) with k' | k'
    ·exact k'.symm
    ·exact absurd (lt3_trans (ha1 _ k') (hb1 _ k)) (lt3_irrefl _)
  subst e
  rw [up_eq ha2 hb2 fun z => ?_]
  constructor
  ·intro hz
   rcases List.mem_cons.mp ((h z).mp (by simp [hz])) with k | k
   ·subst k; exact absurd (ha1 _ hz) (lt3_irrefl _)
   ·exact k
  ·intro hz
   rcases List.mem_cons.mp ((h z).mpr (by simp [hz])) with k | k
   ·subst k; exact absurd (hb1 _ hz) (lt3_irrefl _)
   ·exact k
theorem up_filter {l : List Tr} (h : Up l) (p : Tr → Bool) : Up (l.filter p) := List.Pairwise.filter p h
def put (t : Tr) : List Tr → List Tr
 | [] => [t]
 | x :: l => if lt3 t x then t :: x :: l else x :: put t l
theorem put_mem {t x : Tr} : ∀ {l : List Tr}, x ∈ put t l ↔ x = t ∨ x ∈ l
 | [] => by simp [put]
 | y :: l => by
  unfold put
  split
  ·simp
  ·rw [List.mem_cons, put_mem, List.mem_cons]
   constructor
   ·rintro (h | h | h) <;> simp [h]
   ·rintro (h | h | h) <;> simp [h]
theorem put_up {t : Tr} : ∀ {l : List Tr}, Up l → t ∉ l → Up (put t l)
 | [], _, _ => by unfold put Up; simp
 | y :: l, h, hn => by
  obtain ⟨h1, h2⟩ := List.pairwise_cons.mp h
  unfold put
  split
  ·rename_i ht
   exact List.pairwise_cons.mpr ⟨fun z hz => by
    rcases List.mem_cons.mp hz with k | k
    ·rw [k]; exact ht
    ·exact lt3_trans ht (h1 z k), h⟩
  ·rename_i ht
   have hyt : lt3 y t := by
    rcases lt3_total y t with k | k | k
    ·exact k
    ·exact absurd (by rw [k]; simp) hn
    ·exact absurd k ht
   refine List.pairwise_cons.mpr ⟨fun z hz => ?_, put_up h2 (fun k => hn (by simp [k]))⟩
   rcases put_mem.mp hz with k | k
   ·rw [k]; exact hyt
   ·exact h1 z k
def tris (T : List Tr) : List Tr := (T.map own).foldl (fun l t => put t l) []
theorem fold_spec : ∀ (T l : List Tr), Up l → T.Nodup → (∀ t ∈ T, t ∉ l) → Up (T.foldl (fun l t => put t l) l) ∧ ∀ x, x ∈ T.foldl (fun l t => put t l) l ↔ x ∈ T ∨ x ∈ l
 | [], l, h, _, _ => ⟨h, fun x => by simp⟩
 | t :: T, l, h, hd, hn => by
  obtain ⟨d1, d2⟩ := List.nodup_cons.mp hd
  have ih := fold_spec T (put t l) (put_up h (hn t (by simp))) d2 (fun s hs k => by
   rcases put_mem.mp k with k | k
   ·rw [k] at hs; exact d1 hs
   ·exact hn s (by simp [hs]) k)
  refine ⟨ih.1, fun x => ?_⟩
  rw [List.foldl_cons, ih.2, put_mem, List.mem_cons]
  constructor
  ·rintro (h | h | h) <;> simp [h]
  ·rintro ((h | h) | h) <;> simp [h]
theorem tris_up {T : List Tr} (h : (T.map own).Nodup) : Up (tris T) := (fold_spec _ [] (by unfold Up; simp) h (by simp)).1
theorem tris_mem {T : List Tr} (h : (T.map own).Nodup) {x : Tr} : x ∈ tris T ↔ x ∈ T.map own := by
 exact ((fold_spec (T.map own) [] (by unfold Up; simp) h (by simp)).2 x).trans (or_iff_left (by simp))
def Has (O : List Tr) (a b c : Int) : Prop := own (a, b, c) ∈ O
structure Mesh (O : List Tr) : Prop where
 up : Up O
 lo : ∀ t ∈ O, Lo t
 ds : ∀ t ∈ O, Ds t
 one : ∀ a b c d, Has O a b c → Has O a b d → c = d
theorem has_rot {O : List Tr} (h : ∀ t ∈ O, Ds t) {a b c : Int} : Has O a b c → Has O b c a := fun k => by
 have hd : Ds (a, b, c) := by
  have := h _ k
  rcases own_cases (a, b, c) with e | e | e <;> rw [e] at this
  ·exact this
  ·exact ds_rot (ds_rot this)
  ·exact ds_rot this
 have := own_rot hd
 unfold Has
 rw [show ((b, c, a) : Tr) = rot (a, b, c) from rfl, this]
 exact k
theorem Mesh.rot {O : List Tr} (m : Mesh O) {a b c : Int} (h : Has O a b c) : Has O b c a := has_rot m.ds h
theorem has_ds {O : List Tr} (h : ∀ t ∈ O, Ds t) {a b c : Int} (k : Has O a b c) : Ds (a, b, c) := by
 have := h _ k
 rcases own_cases (a, b, c) with e | e | e <;> rw [e] at this
 ·exact this
 ·exact ds_rot (ds_rot this)
 ·exact ds_rot this
theorem Mesh.sub {O O' : List Tr} (m : Mesh O) (hu : Up O') (h : ∀ t ∈ O', t ∈ O) : Mesh O' :=
 ⟨hu, fun t ht => m.lo t (h t ht), fun t ht => m.ds t (h t ht), fun a b c d h1 h2 => m.one a b c d (h _ h1) (h _ h2)⟩
def Nb (fx : Int → Int → Prop) (s t : Tr) : Prop := ∃ a b c d, own (a, b, c) = s ∧ own (b, a, d) = t ∧ ¬ fx a b
inductive Conn (fx : Int → Int → Prop) (O : List Tr) : Tr → Tr → Prop
 | refl (s : Tr) : Conn fx O s s
 | step {s t u : Tr} : Conn fx O s t → u ∈ O → Nb fx t u → Conn fx O s u
section
variable {fx : Int → Int → Prop} {O : List Tr}
theorem Nb.symm (hf : ∀ a b, fx a b ↔ fx b a) {s t : Tr} (h : Nb fx s t) : Nb fx t s := by
 obtain ⟨a, b, c, d, h1, h2, h3⟩ := h
 exact ⟨b, a, d, c, h2, h1, fun k => h3 ((hf a b).mpr k)⟩
theorem Conn.mem {s t : Tr} (h : Conn fx O s t) (hs : s ∈ O) : t ∈ O := by
 cases h with
 | refl => exact hs
 | step _ h2 _ => exact h2
theorem Conn.trans {s t u : Tr} (h : Conn fx O s t) (k : Conn fx O t u) : Conn fx O s u := by
 induction k with
 | refl => exact h
 | step _ h2 h3 ih => exact .step ih h2 h3
theorem Conn.symm (hf : ∀ a b, fx a b ↔ fx b a) {s t : Tr} (h : Conn fx O s t) (hs : s ∈ O) : Conn fx O t s := by
 induction h with
 | refl => exact .refl _
 | step h1 h2 h3 ih => exact (Conn.step (.refl _) (h1.mem hs) (h3.symm hf)).trans ih
theorem Conn.closed {S : Tr → Prop} (h : ∀ s, S s → ∀ t ∈ O, Nb fx s t → S t) {s t : Tr} (hc : Conn fx O s t) (hs : S s) : S t := by
 induction hc with
 | refl => exact hs
 | step _ h2 h3 ih => exact h _ ih _ h2 h3
end
structure IsParts (fx : Int → Int → Prop) (O : List Tr) (L : List (List Tr)) : Prop where
 up : ∀ p ∈ L, Up p
 ne : ∀ p ∈ L, p ≠ []
 heads : (L.map fun p => p.head?.getD (0, 0, 0)).Pairwise lt3
 all : ∀ t ∈ O, ∃ p ∈ L, t ∈ p
 part : ∀ p ∈ L, ∀ s ∈ p, s ∈ O ∧ ∀ t, t ∈ p ↔ Conn fx O s t
theorem up_head {p : List Tr} (h : Up p) (hn : p ≠ []) : p.head?.getD (0, 0, 0) ∈ p ∧ ∀ t ∈ p, t = p.head?.getD (0, 0, 0) ∨ lt3 (p.head?.getD (0, 0, 0)) t := by
 cases p with
 | nil => exact absurd rfl hn
 | cons x p =>
  refine ⟨by simp, fun t ht => ?_⟩
  rcases List.mem_cons.mp ht with k | k
  ·exact .inl k
  ·exact .inr ((List.pairwise_cons.mp h).1 t k)
theorem heads_eq : ∀ {a b : List (List Tr)}, (∀ p ∈ a, p ∈ b) → (∀ p ∈ b, p ∈ a) → (a.map fun p => p.head?.getD (0, 0, 0)).Pairwise lt3 → (b.map fun p => p.head?.getD (0, 0, 0)).Pairwise lt3 → a = b
 | [], [], _, _, _, _ => rfl
 | [], y :: _, _, h, _, _ => absurd (h y (by simp)) (by simp)
 | x :: _, [], h, _, _, _ => absurd (h x (by simp)) (by simp)
 | x :: a, y :: b, h1, h2, ha, hb => by
  rw [List.map_cons] at ha hb
  obtain ⟨ha1, ha2⟩ := List.pairwise_cons.mp ha
  obtain ⟨hb1, hb2⟩ := List.pairwise_cons.mp hb
  have e : x = y := by
   rcases List.mem_cons.mp (h1 x (by simp)) with k | k
   ·exact k
   ·rcases List.mem_cons.mp (h2 y (by simp)) with k' | k'
    ·exact k'.symm
    ·exact absurd (lt3_trans (ha1 _ (List.mem_map.mpr ⟨y, k', rfl⟩)) (hb1 _ (List.mem_map.mpr ⟨x, k, rfl⟩))) (lt3_irrefl _)
  subst e
  rw [heads_eq (a := a) (b := b) (fun p hp => ?_) (fun p hp => ?_) ha2 hb2]
  ·rcases List.mem_cons.mp (h1 p (by simp [hp])) with k | k
   ·subst k; exact absurd (ha1 _ (List.mem_map.mpr ⟨p, hp, rfl⟩)) (lt3_irrefl _)
   ·exact k
  ·rcases List.mem_cons.mp (h2 p (by simp [hp])) with k | k
   ·subst k; exact absurd (hb1 _ (List.mem_map.mpr ⟨p, hp, rfl⟩)) (lt3_irrefl _)
   ·exact k
theorem IsParts.eq {fx : Int → Int → Prop} {O : List Tr} {L M : List (List Tr)} (h : IsParts fx O L) (k : IsParts fx O M) : L = M := by
 have key : ∀ {L M : List (List Tr)}, IsParts fx O L → IsParts fx O M → ∀ p ∈ L, p ∈ M := fun {L M} h k p hp => by
  obtain ⟨m1, -⟩ := up_head (h.up p hp) (h.ne p hp)
  obtain ⟨m2, m3⟩ := h.part p hp _ m1
  obtain ⟨q, hq, m4⟩ := k.all _ m2
  obtain ⟨-, m5⟩ := k.part q hq _ m4
  rw [up_eq (h.up p hp) (k.up q hq) fun x => by rw [m3, m5]]
  exact hq
 exact heads_eq (key h k) (key k h) h.heads k.heads
end Go.Proofs.YtaoichlepfiliaaGreatDoor.Msh
end
