/- What the proof needs of Mmp: only what is used is left (wip/tools/prune.py). Conditions stand in each sentence. -/
import Derived.Maps.Range
import Derived.Below
import Derived.Tactics
import Derived.Maps.RangeWalk
section
set_option linter.unusedVariables false
set_option linter.unusedSimpArgs false
namespace Go.Proofs.YtjiolfpahollkaaGreatDoor.Mp
open Go.ChangeMaps Go.MapKept Go.RowKit
open Go.Maps (Keyed)
structure Key (P : Program) (K : TypeId) {α : Type} (enc : α → Value) (ok : α → Prop) : Prop where
  law : Keyed P K
  of : ∀ x, ok x → ∃ l, keyOf P K (enc x) = some l
  inj : ∀ x y, enc x = enc y → x = y
structure Fn {α : Type} (enc : α → Value) (ok : α → Prop) (es : Array MapEntry) (clock : Nat) (f : α → Option Value) : Prop where
  stamped : Stamped es clock
  key : ∀ e ∈ es.toList, ∃ x, ok x ∧ e.key = enc x ∧ f x = some e.val
  has : ∀ x v, f x = some v → ∃ e ∈ es.toList, e.key = enc x ∧ e.val = v
def MapF {α : Type} (enc : α → Value) (ok : α → Prop) (w : World) (b : Nat) (f : α → Option Value) : Prop := ∃ es clock, w.heap[b]? = some (.map es clock) ∧ Fn enc ok es clock f
section
variable {P : Program} {K E T : TypeId} {α : Type} {enc : α → Value} {ok : α → Prop} {w w' : World} {b : Nat} {f : α → Option Value} {es : Array MapEntry} {clock : Nat}
theorem MapF.lt (h : MapF enc ok w b f) : b < w.heap.size := by
  obtain ⟨es, clock, hb, -⟩ := h
  exact (Array.getElem?_eq_some_iff.1 hb).1
theorem MapF.move (h : MapF enc ok w b f) (hm : w'.heap[b]? = w.heap[b]?) : MapF enc ok w' b f := by
  obtain ⟨es, clock, hb, F⟩ := h
  exact ⟨es, clock, hm.trans hb, F⟩
theorem MapF.below (h : MapF enc ok w b f) (hb : Below w.heap.size w w') : MapF enc ok w' b f := h.move (hb.block b h.lt)
theorem MapF.made (w : World) : MapF enc ok (w.alloc (.map #[] 0)) w.heap.size (fun _ => none) :=
  ⟨#[], 0, (MapKept.heap_alloc w _).1, stamped_empty 0, by simp, by simp⟩
theorem Fn.keys (k : Key P K enc ok) (F : Fn enc ok es clock f) : ∀ e ∈ es.toList, ∃ l, keyOf P K e.key = some l := fun e he => by
  obtain ⟨x, hx, h, -⟩ := F.key e he
  rw [h]
  exact k.of x hx
theorem Fn.find (k : Key P K enc ok) (F : Fn enc ok es clock f) (w : World) {x : α} (hx : ok x) :
    (f x = none ∧ (Instr.findKey K (enc x) es.toList).run P w = .ok none w ∧ ∀ e ∈ es.toList, e.key ≠ enc x) ∨
    ∃ j e, f x = some e.val ∧ (Instr.findKey K (enc x) es.toList).run P w = .ok (some (j, e.val)) w ∧ es.toList[j]? = some e ∧ e.key = enc x := by
  obtain ⟨l, hl⟩ := k.of x hx
  rcases k.law.find w hl es.toList (F.keys k) with ⟨h1, h2⟩ | ⟨j, e, h1, h2, h3⟩
  · refine .inl ⟨?_, h1, h2⟩
    cases hf : f x with
    | none => rfl
    | some v =>
      obtain ⟨e, he, h3, -⟩ := F.has x v hf
      exact absurd h3 (h2 e he)
  · refine .inr ⟨j, e, ?_, h1, h2, h3⟩
    obtain ⟨y, -, h4, h5⟩ := F.key e (List.mem_of_getElem? h2)
    rw [k.inj x y (h3.symm.trans h4)]
    exact h5
theorem MapF.lookup (k : Key P K enc ok) (ht : P.underlying T = some (.map K E)) {z : Value} (hz : (zeroValue E).run P w = .ok z w) (h : MapF enc ok w b f) {x : α} (hx : ok x) (c : Bool) :
    (Instr.lookup T (.map (some b)) (enc x) c).run P w = .ok (if c then .tuple #[(f x).getD z, .bool (f x).isSome] else (f x).getD z) w := by
  obtain ⟨es, clock, hb, F⟩ := h
  obtain ⟨l, hl⟩ := k.of x hx
  have hc := k.law.check w es.isEmpty hl
  rcases F.find k w hx with ⟨h1, h2, -⟩ | ⟨j, e, h1, h2, -, -⟩
  · rw [h1]
    simp [Instr.lookup, run_underlying ht, MapKept.run_getObj_map hb, hc, h2, hz, Result.andThen, Sem.run_bind]
  · rw [h1]
    simp [Instr.lookup, run_underlying ht, MapKept.run_getObj_map hb, hc, h2, Result.andThen, Sem.run_bind]
def upd [DecidableEq α] (f : α → Option Value) (x : α) (v : Option Value) : α → Option Value := fun y => if y = x then v else f y
theorem MapF.update [DecidableEq α] (k : Key P K enc ok) (ht : P.underlying T = some (.map K E)) (h : MapF enc ok w b f) {x : α} (hx : ok x) (v : Value) :
    ∃ o, (Instr.mapUpdate T (.map (some b)) (enc x) v).run P w = .ok () (setBlock w b o) ∧ MapF enc ok (setBlock w b o) b (upd f x (some v)) := by
  have hlt := h.lt
  obtain ⟨es, clock, hb, F⟩ := h
  obtain ⟨l, hl⟩ := k.of x hx
  have hc := k.law.check w false hl
  have hset : ∀ o, (setBlock w b o).heap[b]? = some o := fun o => by simp [setBlock, hlt]
  rcases F.find k w hx with ⟨h1, h2, h3⟩ | ⟨j, e0, h1, h2, h3, h4⟩
  · refine ⟨.map (es.push ⟨enc x, v, clock⟩) (clock + 1), ?_, _, _, hset _, stamped_push F.stamped h3, fun e he => ?_, fun y u hy => ?_⟩
    · simp [Instr.mapUpdate, run_underlying ht, MapKept.run_getObj_map hb, hc, h2, MapKept.run_setObj_map _ hb, Result.andThen, setBlock]
    · rw [Array.toList_push, List.mem_append, List.mem_singleton] at he
      rcases he with he | rfl
      · obtain ⟨y, hy, e1, e2⟩ := F.key e he
        exact ⟨y, hy, e1, by unfold upd; rw [if_neg (fun q => h3 e he (by rw [e1, q]))]; exact e2⟩
      · exact ⟨x, hx, rfl, by unfold upd; rw [if_pos rfl]⟩
    · unfold upd at hy
      rw [Array.toList_push]
      split at hy
      · rename_i q
        subst q
        exact ⟨_, List.mem_append_right _ (List.mem_singleton.mpr rfl), rfl, by simpa using hy⟩
      · obtain ⟨e, he, e1, e2⟩ := F.has y u hy
        exact ⟨e, List.mem_append_left _ he, e1, e2⟩
  · have hes : es[j]? = some e0 := by rw [← Array.getElem?_toList]; exact h3
    have hm0 : e0 ∈ es.toList := List.mem_of_getElem? h3
    have hnk := ((stamped_iff es clock).1 F.stamped).2.2
    have hmod : ∀ e : MapEntry, e ∈ (es.modify j fun e => { e with key := enc x, val := v }).toList ↔ (e ∈ es.toList ∧ e.key ≠ enc x) ∨ e = { e0 with key := enc x, val := v } := fun e => by
      rw [List.mem_iff_getElem?]
      simp only [Array.getElem?_toList, Array.getElem?_modify]
      constructor
      · rintro ⟨i, hi⟩
        split at hi
        · rename_i q
          subst q
          rw [hes] at hi
          simp at hi
          exact .inr hi.symm
        · rename_i q
          refine .inl ⟨by rw [← Array.getElem?_toList] at hi; exact List.mem_of_getElem? hi, fun hk => ?_⟩
          rw [← Array.getElem?_toList] at hi
          obtain ⟨i1, i2⟩ := List.getElem?_eq_some_iff.mp hi
          obtain ⟨j1, j2⟩ := List.getElem?_eq_some_iff.mp h3
          rcases Nat.lt_trichotomy i j with r | r | r
          · exact List.pairwise_iff_getElem.mp hnk i j i1 j1 r (by rw [i2, j2, hk, h4])
          · exact q r.symm
          · exact List.pairwise_iff_getElem.mp hnk j i j1 i1 r (by rw [i2, j2, hk, h4])
      · rintro (⟨h5, h6⟩ | rfl)
        · obtain ⟨i, i1⟩ := List.mem_iff_getElem?.mp h5
          refine ⟨i, ?_⟩
          rw [if_neg (fun q => ?_)]
          · rw [← Array.getElem?_toList]; exact i1
          · subst q
            rw [h3] at i1
            injection i1 with i1
            exact h6 (by rw [← i1]; exact h4)
        · exact ⟨j, by rw [if_pos rfl, hes]; rfl⟩
    refine ⟨.map (es.modify j fun e => { e with key := enc x, val := v }) clock, ?_, _, _, hset _, stamped_modify F.stamped j _ (fun _ _ => rfl) (fun e he hj => ?_), fun e he => ?_, fun y u hy => ?_⟩
    · have hs := k.law.stays w hl
      simp [Instr.mapUpdate, run_underlying ht, MapKept.run_getObj_map hb, hc, h2, hes, h4, hs, MapKept.run_setObj_map _ hb, Result.andThen, setBlock]
    · rw [hes] at hj
      injection hj with hj
      rw [← hj]
      exact h4.symm
    · rcases (hmod e).mp he with ⟨h5, h6⟩ | rfl
      · obtain ⟨y, hy, e1, e2⟩ := F.key e h5
        exact ⟨y, hy, e1, by unfold upd; rw [if_neg (fun q => h6 (by rw [e1, q]))]; exact e2⟩
      · exact ⟨x, hx, rfl, by unfold upd; rw [if_pos rfl]⟩
    · unfold upd at hy
      split at hy
      · rename_i q
        subst q
        exact ⟨_, (hmod _).mpr (.inr rfl), rfl, by simpa using hy⟩
      · rename_i q
        obtain ⟨e, he, e1, e2⟩ := F.has y u hy
        exact ⟨e, (hmod e).mpr (.inl ⟨he, fun r => q (k.inj y x (e1.symm.trans r))⟩), e1, e2⟩
theorem MapF.delete [DecidableEq α] (k : Key P K enc ok) (ht : P.underlying T = some (.map K E)) (h : MapF enc ok w b f) {x : α} (hx : ok x) (ty : TypeId) (kt : TypeId) :
    ∃ o, (Builtin.delete_ #[T, kt] ty #[.map (some b), enc x]).run P w = .ok (.tuple #[]) (setBlock w b o) ∧ MapF enc ok (setBlock w b o) b (upd f x none) := by
  have hlt := h.lt
  obtain ⟨es, clock, hb, F⟩ := h
  obtain ⟨l, hl⟩ := k.of x hx
  have hc := k.law.check w es.isEmpty hl
  have hset : ∀ o, (setBlock w b o).heap[b]? = some o := fun o => by simp [setBlock, hlt]
  rcases F.find k w hx with ⟨h1, h2, h3⟩ | ⟨j, e0, h1, h2, h3, h4⟩
  · refine ⟨.map es clock, ?_, _, _, hset _, F.stamped, fun e he => ?_, fun y u hy => ?_⟩
    · simp [Builtin.delete_, run_underlying ht, MapKept.run_getObj_map hb, hc, h2, MapKept.run_setObj_map _ hb, Result.andThen, setBlock]
    · obtain ⟨y, hy, e1, e2⟩ := F.key e he
      exact ⟨y, hy, e1, by unfold upd; rw [if_neg (fun q => h3 e he (by rw [e1, q]))]; exact e2⟩
    · unfold upd at hy
      split at hy
      · cases hy
      · exact F.has y u hy
  · have hes : es[j]? = some e0 := by rw [← Array.getElem?_toList]; exact h3
    have hnk := ((stamped_iff es clock).1 F.stamped).2.2
    have hj : j < es.size := (Array.getElem?_eq_some_iff.1 hes).1
    have hmem : ∀ e, e ∈ (es.eraseIdxIfInBounds j).toList ↔ e ∈ es.toList ∧ e.key ≠ enc x := fun e => by
      rw [Array.eraseIdxIfInBounds, dif_pos hj, Array.toList_eraseIdx, List.mem_eraseIdx_iff_getElem?]
      constructor
      · rintro ⟨i, hi, h5⟩
        refine ⟨List.mem_of_getElem? h5, fun hk => ?_⟩
        obtain ⟨i1, i2⟩ := List.getElem?_eq_some_iff.mp h5
        obtain ⟨j1, j2⟩ := List.getElem?_eq_some_iff.mp h3
        rcases Nat.lt_trichotomy i j with r | r | r
        · exact List.pairwise_iff_getElem.mp hnk i j i1 j1 r (by rw [i2, j2, hk, h4])
        · exact hi r
        · exact List.pairwise_iff_getElem.mp hnk j i j1 i1 r (by rw [i2, j2, hk, h4])
      · rintro ⟨h5, h6⟩
        obtain ⟨i, i1⟩ := List.mem_iff_getElem?.mp h5
        refine ⟨i, fun q => ?_, i1⟩
        subst q
        rw [h3] at i1
        injection i1 with i1
        exact h6 (by rw [← i1]; exact h4)
    refine ⟨.map (es.eraseIdxIfInBounds j) clock, ?_, _, _, hset _, stamped_erase F.stamped j, fun e he => ?_, fun y u hy => ?_⟩
    · simp [Builtin.delete_, run_underlying ht, MapKept.run_getObj_map hb, hc, h2, MapKept.run_setObj_map _ hb, Result.andThen, setBlock]
    · obtain ⟨h5, h6⟩ := (hmem e).mp he
      obtain ⟨y, hy, e1, e2⟩ := F.key e h5
      exact ⟨y, hy, e1, by unfold upd; rw [if_neg (fun q => h6 (by rw [e1, q]))]; exact e2⟩
    · unfold upd at hy
      split at hy
      · cases hy
      · rename_i q
        obtain ⟨e, he, e1, e2⟩ := F.has y u hy
        exact ⟨e, (hmem e).mpr ⟨he, fun r => q (k.inj y x (e1.symm.trans r))⟩, e1, e2⟩
theorem below_block {B : Nat} (hB : B ≤ b) (o : Obj) : Below B w (setBlock w b o) := ⟨rfl, rfl, rfl, by simp [setBlock], fun k hk => by simp only [setBlock]; rw [Array.getElem?_setIfInBounds_ne (by omega)]⟩
theorem other_block {c : Nat} (hc : c ≠ b) (o : Obj) : (setBlock w b o).heap[c]? = w.heap[c]? := by simp only [setBlock]; rw [Array.getElem?_setIfInBounds_ne (by omega)]
def Rang (enc : α → Value) (ok : α → Prop) (w : World) (b r : Nat) (f : α → Option Value) (left : α → Prop) : Prop :=
  ∃ es clock since seen c0, w.heap[b]? = some (.map es clock) ∧ Fn enc ok es clock f ∧ w.heap[r]? = some (.mapIter (some b) since seen c0) ∧ (∀ e ∈ es.toList, e.born < since) ∧ since ≤ c0 ∧ since ≤ clock ∧ ∀ x, left x ↔ ∃ e ∈ es.toList, e.key = enc x ∧ seen.contains e.born = false
theorem Rang.lt {r : Nat} {left : α → Prop} (h : Rang enc ok w b r f left) : r < w.heap.size ∧ b < w.heap.size := by
  obtain ⟨es, clock, since, seen, c0, h1, -, h3, -⟩ := h
  exact ⟨(Array.getElem?_eq_some_iff.1 h3).1, (Array.getElem?_eq_some_iff.1 h1).1⟩
theorem Rang.move {r : Nat} {left : α → Prop} (h : Rang enc ok w b r f left) (hb : w'.heap[b]? = w.heap[b]?) (hr : w'.heap[r]? = w.heap[r]?) : Rang enc ok w' b r f left := by
  obtain ⟨es, clock, since, seen, c0, h1, h2, h3, h4⟩ := h
  exact ⟨es, clock, since, seen, c0, hb.trans h1, h2, hr.trans h3, h4⟩
theorem MapF.range (k : Key P K enc ok) (ht : P.underlying T = some (.map K E)) (h : MapF enc ok w b f) :
    ∃ o, (Instr.range T (.map (some b))).run P w = .ok (.pointer (some ⟨w.heap.size, 0, none⟩)) (w.alloc o) ∧ Rang enc ok (w.alloc o) b w.heap.size f (fun x => (f x).isSome = true) := by
  have hlt := h.lt
  obtain ⟨es, clock, hb, F⟩ := h
  refine ⟨_, run_range_map w T K E b es clock ht hb, es, clock, clock, #[], clock, ((MapKept.heap_alloc w _).2 b hlt).trans hb, F, (MapKept.heap_alloc w _).1, F.stamped.1, Nat.le_refl _, Nat.le_refl _, fun x => ⟨fun hx => ?_, fun hx => ?_⟩⟩
  · obtain ⟨v, hv⟩ := Option.isSome_iff_exists.mp hx
    obtain ⟨e, he, h1, -⟩ := F.has x v hv
    exact ⟨e, he, h1, by simp⟩
  · obtain ⟨e, he, h1, -⟩ := hx
    obtain ⟨y, -, h2, h3⟩ := F.key e he
    rw [k.inj x y (h1.symm.trans h2), h3]
    rfl
theorem Rang.next (k : Key P K enc ok) {r : Nat} {left : α → Prop} (h : Rang enc ok w b r f left) (ty : TypeId) :
    ((∀ x, ¬ left x) ∧ (Instr.next (.pointer (some ⟨r, 0, none⟩)) false ty).run P w = .ok (.tuple #[.bool false]) w) ∨
    ∃ x v w1 o, ok x ∧ left x ∧ f x = some v ∧ (w1 = w ∨ w1 = w.drew) ∧ (Instr.next (.pointer (some ⟨r, 0, none⟩)) false ty).run P w = .ok (.tuple #[.bool true, enc x, v]) (setBlock w1 r o) ∧ Rang enc ok (setBlock w1 r o) b r f (fun y => left y ∧ y ≠ x) ∧
      (setBlock w1 r o).rangeLeft b r < w.rangeLeft b r ∧ (Instr.entry (.pointer (some ⟨r, 0, none⟩))).run P (setBlock w1 r o) = .ok (.tuple #[enc x, v]) (setBlock w1 r o) := by
  obtain ⟨es, clock, since, seen, c0, hb, F, hr, hold, hsc, hsk, hl⟩ := h
  have hne : b ≠ r := fun e => by rw [e, hr] at hb; cases hb
  have hst := (stamped_iff es clock).1 F.stamped
  rcases run_next_at (P := P) w ty r b since c0 seen es clock hr hb hold hsc with ⟨h0, hrun⟩ | ⟨e, he, w1, hal, hrun⟩
  · refine .inl ⟨fun x hx => ?_, hrun⟩
    obtain ⟨e, he, -, h2⟩ := (hl x).mp hx
    rw [all_seen es seen h0 e he] at h2
    cases h2
  · obtain ⟨hem, hes⟩ := mem_left he
    obtain ⟨x, hx, h1, h2⟩ := F.key e hem
    have hr1 : w1.heap[r]? = some (.mapIter (some b) since seen c0) := by rcases hal with rfl | rfl <;> exact hr
    have hb1 : w1.heap[b]? = some (.map es clock) := by rcases hal with rfl | rfl <;> exact hb
    have hset := heap_set (o' := .mapIter (some b) since (seen.push e.born) clock) hr1
    have hset1 : (setBlock w1 r (.mapIter (some b) since (seen.push e.born) clock)).heap[r]? = some (.mapIter (some b) since (seen.push e.born) clock) := hset.1
    have hb' : (setBlock w1 r (.mapIter (some b) since (seen.push e.born) clock)).heap[b]? = some (.map es clock) := (hset.2 b hne).trans hb1
    rw [h1] at hrun
    have hen := run_entry_at (P := P) _ r b since seen es clock e hset.1 hb' hem hst.2.1
    rw [h1] at hen
    refine .inr ⟨x, e.val, w1, _, hx, (hl x).mpr ⟨e, hem, h1, hes⟩, h2, hal, hrun, ⟨es, clock, since, seen.push e.born, clock, hb', F, hset.1, hold, hsk, hsk, fun y => ?_⟩, ?_, hen⟩
    · show left y ∧ y ≠ x ↔ _
      rw [hl y]
      constructor
      · rintro ⟨⟨d, hd, h3, h4⟩, h5⟩
        refine ⟨d, hd, h3, ?_⟩
        rw [contains_push, h4, Bool.false_or]
        refine beq_eq_false_iff_ne.mpr fun q => h5 ?_
        have : d = e := by
          have h6 := hst.2.1
          exact born_inj h6 hd hem q
        rw [this, h1] at h3
        exact (k.inj _ _ h3).symm
      · rintro ⟨d, hd, h3, h4⟩
        rw [contains_push, Bool.or_eq_false_iff] at h4
        refine ⟨⟨d, hd, h3, h4.1⟩, fun q => ?_⟩
        subst q
        have : d = e := entry_eq_of_key hst.2.2 hd hem (h3.trans h1.symm)
        rw [this] at h4
        simp at h4
    · have e1 : (setBlock w1 r (.mapIter (some b) since (seen.push e.born) clock)).rangeLeft b r = (leftOf es (seen.push e.born)).size := by unfold World.rangeLeft; rw [hb', hset1]
      have e2 : w.rangeLeft b r = (leftOf es seen).size := by unfold World.rangeLeft; rw [hb, hr]
      rw [e1, e2]
      exact left_shrinks es seen e he
end
end Go.Proofs.YtjiolfpahollkaaGreatDoor.Mp
end
section
set_option linter.unusedVariables false
set_option linter.unusedSimpArgs false
namespace Go.Proofs.YtjiolfpahollkaaGreatDoor.Mp
open Go.ChangeMaps Go.MapKept Go.RowKit
open Go.Maps (Keyed)
section
variable {P : Program} {K E T : TypeId} {α : Type} {enc : α → Value} {ok : α → Prop} {w : World} {b : Nat} {f : α → Option Value}
variable {ops : Array Oper} {rest : List Oper} {o : Oper} {a : Act} {Q : Exit → Act → World → Prop}
theorem wp_lookup2 (k : Key P K enc ok) (ht : P.underlying T = some (.map K E)) {z : Value} (hz : ∀ W, (zeroValue E).run P W = .ok z W) (hg : o.guard = none) (m x : Operand) (hop : o.op = Op.lookup T m x true) (hm : a.eval m = .map (some b)) {y : α} (hx : a.eval x = enc y)
    (h : MapF enc ok w b f) (hy : ok y) {v : Value} {q : Bool} (hv : (f y).getD z = v) (hq : (f y).isSome = q) (hK : wpList P ops Q rest (a.put o.dst (.tuple #[v, .bool q])) w) : wpList P ops Q (o :: rest) a w := by
  subst hv hq
  refine wpList_plain hg fun K' hK' => ?_
  have hrun := h.lookup k ht (hz w) hy true
  unfold Oper.wp
  simp [execOp, hop, hm, hx, hrun, Result.andThen]
  exact hK' _ _ hK
theorem wp_range (k : Key P K enc ok) (ht : P.underlying T = some (.map K E)) (hg : o.guard = none) (m : Operand) (hop : o.op = Op.range T m) (hm : a.eval m = .map (some b)) (h : MapF enc ok w b f)
    (hK : ∀ W', Rang enc ok W' b w.heap.size f (fun x => (f x).isSome = true) → Below w.heap.size w W' → wpList P ops Q rest (a.put o.dst (.pointer (some ⟨w.heap.size, 0, none⟩))) W') : wpList P ops Q (o :: rest) a w := by
  obtain ⟨ob, hrun, h2⟩ := h.range k ht
  refine wpList_plain hg fun K' hK' => ?_
  unfold Oper.wp
  simp [execOp, hop, hm, hrun, Result.andThen]
  exact hK' _ _ (hK _ h2 ((Below.refl _ _).alloc (Nat.le_refl _) _))
theorem wp_next (k : Key P K enc ok) (hg : o.guard = none) (it : Operand) (hop : o.op = Op.next it false) {r : Nat} {left : α → Prop} (hit : a.eval it = .pointer (some ⟨r, 0, none⟩)) (h : Rang enc ok w b r f left)
    (hDone : (∀ x, ¬ left x) → wpList P ops Q rest (a.put o.dst (.tuple #[.bool false])) w)
    (hMore : ∀ x v W', ok x → left x → f x = some v → Rang enc ok W' b r f (fun y => left y ∧ y ≠ x) → W'.rangeLeft b r < w.rangeLeft b r → (∀ B, B ≤ r → Below B w W') → (∀ c, c ≠ r → W'.heap[c]? = w.heap[c]?) → (Instr.entry (.pointer (some ⟨r, 0, none⟩))).run P W' = .ok (.tuple #[enc x, v]) W' → wpList P ops Q rest (a.put o.dst (.tuple #[.bool true, enc x, v])) W') :
    wpList P ops Q (o :: rest) a w := by
  refine wpList_plain hg fun K' hK' => ?_
  unfold Oper.wp
  rcases h.next k o.type with ⟨hl, hrun⟩ | ⟨x, v, w1, ob, hx, hl, hf, hal, hrun, h2, h3, h4⟩
  · simp [execOp, hop, hit, hrun, Result.andThen]
    exact hK' _ _ (hDone hl)
  · simp [execOp, hop, hit, hrun, Result.andThen]
    refine hK' _ _ (hMore x v _ hx hl hf h2 h3 (fun B hB => ?_) (fun c hc => ?_) h4)
    · rcases hal with rfl | rfl
      · exact below_block hB ob
      · exact below_block (w := w.drew) hB ob |> fun q => ⟨q.os, q.tape, q.output, q.size, q.block⟩
    · rcases hal with rfl | rfl
      · exact other_block hc ob
      · exact other_block (w := w.drew) hc ob
end
end Go.Proofs.YtjiolfpahollkaaGreatDoor.Mp
end
section
set_option linter.unusedVariables false
set_option linter.unusedSimpArgs false
namespace Go.Proofs.YtjiolfpahollkaaGreatDoor.Msh
open Go.RowKit
structure Fr (M : Nat → Prop) (w w' : World) : Prop where
  os : w'.os = w.os
  tape : w'.tape = w.tape
  output : w'.output = w.output
  size : w.heap.size ≤ w'.heap.size
  block : ∀ k, k < w.heap.size → ¬ M k → w'.heap[k]? = w.heap[k]?
theorem Fr.refl (M : Nat → Prop) (w : World) : Fr M w w := ⟨rfl, rfl, rfl, Nat.le_refl _, fun _ _ _ => rfl⟩
theorem Fr.trans {M M' : Nat → Prop} {a b c : World} (h : Fr M a b) (k : Fr M' b c) (hm : ∀ q, q < a.heap.size → M' q → M q) : Fr M a c :=
  ⟨k.os.trans h.os, k.tape.trans h.tape, k.output.trans h.output, Nat.le_trans h.size k.size, fun q hq hn => (k.block q (Nat.lt_of_lt_of_le hq h.size) (fun r => hn (hm q hq r))).trans (h.block q hq hn)⟩
theorem Fr.of_below {M : Nat → Prop} {a b : World} (h : Below a.heap.size a b) : Fr M a b := ⟨h.os, h.tape, h.output, h.size, fun q hq _ => h.block q hq⟩
theorem Fr.below {M : Nat → Prop} {B : Nat} {a b : World} (h : Fr M a b) (hB : ∀ q, M q → B ≤ q) (hs : B ≤ a.heap.size) : Below B a b := ⟨h.os, h.tape, h.output, h.size, fun q hq => h.block q (by omega) (fun r => by have := hB q r; omega)⟩
end Go.Proofs.YtjiolfpahollkaaGreatDoor.Msh
end
