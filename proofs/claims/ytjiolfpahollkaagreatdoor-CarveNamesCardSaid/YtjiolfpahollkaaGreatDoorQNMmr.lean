/- What the proof needs of Mmr: only what is used is left (wip/tools/prune.py). Conditions stand in each sentence. -/
import Derived.Test.YtjiolfpahollkaaGreatDoorQNMmp
import Derived.Deep.RegionLaw
section
set_option linter.unusedVariables false
set_option linter.unusedSimpArgs false
namespace Go.Proofs.YtjiolfpahollkaaGreatDoor.Mp
open Go.ChangeMaps Go.MapKept Go.RowKit
open Go.Maps (Keyed)
section
variable {P : Program} {K E T : TypeId} {α : Type} {enc : α → Value} {ok : α → Prop} {w w' : World} {b : Nat} {f : α → Option Value}
def MapS (enc : α → Value) (ok : α → Prop) (w : World) (b : Nat) (f : α → Option Value) (x : α) (st : Nat) : Prop := ∃ es clock, w.heap[b]? = some (.map es clock) ∧ Fn enc ok es clock f ∧ ∃ e ∈ es.toList, e.key = enc x ∧ e.born = st
theorem MapS.map {x : α} {st : Nat} (h : MapS enc ok w b f x st) : MapF enc ok w b f := by
  obtain ⟨es, clock, h1, h2, -⟩ := h
  exact ⟨es, clock, h1, h2⟩
theorem modify_same {es : Array MapEntry} {j : Nat} {e0 : MapEntry} {v : Value} (h : es[j]? = some e0) (hk : e0.key = v) : (es.modify j fun e => { e with key := v }) = es := by
  apply Array.ext_getElem?
  intro i
  rw [Array.getElem?_modify]
  split
  · rename_i q
    subst q
    rw [h, Option.map_some, ← hk]
  · rfl
theorem MapF.entry [DecidableEq α] (k : Key P K enc ok) (ht : P.underlying T = some (.map K E)) {z : Value} (hz : ∀ W, (zeroValue E).run P W = .ok z W) (h : MapF enc ok w b f) {x : α} (hx : ok x) :
    ∃ o st, (Instr.mapEntry T (.map (some b)) (enc x)).run P w = .ok (.tuple #[(f x).getD z, .int .i64 (st : Nat)]) (setBlock w b o) ∧ MapS enc ok (setBlock w b o) b (upd f x (some ((f x).getD z))) x st := by
  have hlt := h.lt
  obtain ⟨es, clock, hb, F⟩ := h
  obtain ⟨l, hl⟩ := k.of x hx
  have hc := k.law.check w false hl
  have hset : ∀ o, (setBlock w b o).heap[b]? = some o := fun o => by simp [setBlock, hlt]
  rcases F.find k w hx with ⟨h1, h2, h3⟩ | ⟨j, e0, h1, h2, h3, h4⟩
  · refine ⟨.map (es.push ⟨enc x, z, clock⟩) (clock + 1), clock, ?_, _, _, hset _, ⟨stamped_push F.stamped h3, fun e he => ?_, fun y u hy => ?_⟩, _, by rw [Array.toList_push]; exact List.mem_append_right _ (List.mem_singleton.mpr rfl), rfl, rfl⟩
    · rw [h1]
      simp [Instr.mapEntry, run_underlying ht, MapKept.run_getObj_map hb, hc, h2, hz, MapKept.run_setObj_map _ hb, Result.andThen, setBlock, goInt]
    · rw [Array.toList_push, List.mem_append, List.mem_singleton] at he
      rw [h1]
      rcases he with he | rfl
      · obtain ⟨y, hy, e1, e2⟩ := F.key e he
        exact ⟨y, hy, e1, by unfold upd; rw [if_neg (fun q => h3 e he (by rw [e1, q]))]; exact e2⟩
      · exact ⟨x, hx, rfl, by unfold upd; rw [if_pos rfl]; rfl⟩
    · unfold upd at hy
      rw [Array.toList_push]
      split at hy
      · rename_i q
        subst q
        rw [h1] at hy
        exact ⟨_, List.mem_append_right _ (List.mem_singleton.mpr rfl), rfl, by simpa using hy⟩
      · obtain ⟨e, he, e1, e2⟩ := F.has y u hy
        exact ⟨e, List.mem_append_left _ he, e1, e2⟩
  · have hes : es[j]? = some e0 := by rw [← Array.getElem?_toList]; exact h3
    have hs := k.law.stays w hl
    have hm := modify_same hes h4
    refine ⟨.map es clock, e0.born, ?_, es, clock, hset _, ⟨F.stamped, fun e he => ?_, fun y u hy => ?_⟩, e0, List.mem_of_getElem? h3, h4, rfl⟩
    · rw [h1]
      simp [Instr.mapEntry, run_underlying ht, MapKept.run_getObj_map hb, hc, h2, hes, h4, hs, hm, MapKept.run_setObj_map _ hb, Result.andThen, setBlock, goInt]
    · obtain ⟨y, hy, e1, e2⟩ := F.key e he
      refine ⟨y, hy, e1, ?_⟩
      unfold upd
      split
      · rename_i q
        subst q
        rw [h1] at e2 ⊢
        simpa using e2
      · exact e2
    · unfold upd at hy
      split at hy
      · rename_i q
        subst q
        rw [h1] at hy
        exact F.has _ _ (by rw [h1]; simpa using hy)
      · exact F.has y u hy
theorem MapS.store [DecidableEq α] (k : Key P K enc ok) {x : α} {st : Nat} (h : MapS enc ok w b f x st) (v : Value) :
    ∃ o, (Instr.entryStore T (.map (some b)) (.int .i64 (st : Nat)) v).run P w = .ok () (setBlock w b o) ∧ MapF enc ok (setBlock w b o) b (upd f x (some v)) := by
  have hlt := h.map.lt
  obtain ⟨es, clock, hb, F, e0, he0, hk0, hb0⟩ := h
  have hset : ∀ o, (setBlock w b o).heap[b]? = some o := fun o => by simp [setBlock, hlt]
  have hst := (stamped_iff es clock).1 F.stamped
  have hfi : ∃ i, es.findIdx? (fun e => (e.born : Int) == (st : Int)) = some i ∧ es[i]? = some e0 := by
    cases hfx : es.findIdx? (fun e => (e.born : Int) == (st : Int)) with
    | none =>
      rw [Array.findIdx?_eq_none_iff] at hfx
      have := hfx e0 (by simpa using he0)
      simp [hb0] at this
    | some i =>
      rw [Array.findIdx?_eq_some_iff_getElem] at hfx
      obtain ⟨hi, h1, -⟩ := hfx
      refine ⟨i, rfl, ?_⟩
      rw [Array.getElem?_eq_getElem hi]
      congr 1
      have h2 : es[i].born = st := by simp only [beq_iff_eq] at h1; omega
      exact born_inj hst.2.1 (by simp) he0 (h2.trans hb0.symm)
  obtain ⟨i, hi, hes⟩ := hfi
  have hesl : es.toList[i]? = some e0 := by rw [Array.getElem?_toList]; exact hes
  have hmod : ∀ e : MapEntry, e ∈ (es.modify i fun e => { e with val := v }).toList ↔ (e ∈ es.toList ∧ e.key ≠ enc x) ∨ e = { e0 with val := v } := fun e => by
    rw [List.mem_iff_getElem?]
    simp only [Array.getElem?_toList, Array.getElem?_modify]
    constructor
    · rintro ⟨q, hq⟩
      split at hq
      · rename_i r
        subst r
        rw [hes] at hq
        simp at hq
        exact .inr hq.symm
      · rename_i r
        refine .inl ⟨by rw [← Array.getElem?_toList] at hq; exact List.mem_of_getElem? hq, fun hk => ?_⟩
        rw [← Array.getElem?_toList] at hq
        obtain ⟨i1, i2⟩ := List.getElem?_eq_some_iff.mp hq
        obtain ⟨j1, j2⟩ := List.getElem?_eq_some_iff.mp hesl
        rcases Nat.lt_trichotomy q i with s | s | s
        · exact List.pairwise_iff_getElem.mp hst.2.2 q i i1 j1 s (by rw [i2, j2, hk, hk0])
        · exact r s.symm
        · exact List.pairwise_iff_getElem.mp hst.2.2 i q j1 i1 s (by rw [i2, j2, hk, hk0])
    · rintro (⟨h5, h6⟩ | rfl)
      · obtain ⟨q, q1⟩ := List.mem_iff_getElem?.mp h5
        refine ⟨q, ?_⟩
        rw [if_neg (fun r => ?_)]
        · rw [← Array.getElem?_toList]; exact q1
        · subst r
          rw [hesl] at q1
          injection q1 with q1
          exact h6 (by rw [← q1]; exact hk0)
      · exact ⟨i, by rw [if_pos rfl, hes]; rfl⟩
  obtain ⟨y0, hy0, ey, -⟩ := F.key e0 he0
  have exy : y0 = x := k.inj y0 x (ey.symm.trans hk0)
  subst exy
  refine ⟨.map (es.modify i fun e => { e with val := v }) clock, ?_, _, _, hset _, stamped_modify F.stamped i _ (fun _ _ => rfl) (fun _ _ _ => rfl), fun e he => ?_, fun y u hy => ?_⟩
  · simp [Instr.entryStore, MapKept.run_getObj_map hb, asInt, asIntOf, hi, MapKept.run_setObj_map _ hb, Result.andThen, setBlock, Sem.run_bind]
  · rcases (hmod e).mp he with ⟨h5, h6⟩ | rfl
    · obtain ⟨y, hy, e1, e2⟩ := F.key e h5
      exact ⟨y, hy, e1, by unfold upd; rw [if_neg (fun q => h6 (by rw [e1, q]))]; exact e2⟩
    · exact ⟨y0, hy0, hk0, by unfold upd; rw [if_pos rfl]⟩
  · unfold upd at hy
    split at hy
    · rename_i q
      subst q
      exact ⟨_, (hmod _).mpr (.inr rfl), hk0, by simpa using hy⟩
    · rename_i q
      obtain ⟨e, he, e1, e2⟩ := F.has y u hy
      exact ⟨e, (hmod e).mpr (.inl ⟨he, fun r => q (k.inj y y0 (e1.symm.trans r))⟩), e1, e2⟩
end
end Go.Proofs.YtjiolfpahollkaaGreatDoor.Mp
end
section
set_option linter.unusedVariables false
set_option linter.unusedSimpArgs false
namespace Go.Proofs.YtjiolfpahollkaaGreatDoor.Mp
open Go.ChangeMaps Go.MapKept Go.RowKit
open Go.Maps (Keyed)
section
variable {P : Program} {K E T : TypeId} {α : Type} {enc : α → Value} {ok : α → Prop} {w : World} {b : Nat} {f : α → Option Value}
variable {ops : Array Oper} {o : Oper} {a : Act} {Kn : Act → World → Prop} {Q : Exit → Act → World → Prop} {R : Prop}
theorem step_of (hg : o.guard = none) (h : Oper.wp P o a w Kn Q) : if Region.wanted o (yielded ops a.tmps) = true then Oper.wp P o a w Kn Q else R := by
  have hw : Region.wanted o (yielded ops a.tmps) = true := by simp [Region.wanted, hg]
  rw [if_pos hw]
  exact h
theorem step_delete [DecidableEq α] (k : Key P K enc ok) (ht : P.underlying T = some (.map K E)) (hg : o.guard = none) (m x : Operand) {kt : TypeId} (hop : o.op = Op.call { callee := Callee.builtin Builtin.delete, args := #[m, x], argTypes := #[T, kt] }) (hm : a.eval m = .map (some b)) {y : α} (hx : a.eval x = enc y)
    (h : MapF enc ok w b f) (hy : ok y) (hK : ∀ W', MapF enc ok W' b (upd f y none) → (∀ c, c ≠ b → W'.heap[c]? = w.heap[c]?) → Below b w W' → Kn (a.put o.dst (.tuple #[])) W') : if Region.wanted o (yielded ops a.tmps) = true then Oper.wp P o a w Kn Q else R := by
  refine step_of hg ?_
  obtain ⟨ob, hrun, h2⟩ := h.delete k ht hy o.type kt
  unfold Oper.wp
  simp [execOp, hop, resolve, invoke, builtin, hm, hx, hrun, Result.andThen]
  exact hK _ h2 (fun c hc => other_block hc ob) (below_block (Nat.le_refl _) ob)
end
theorem upd_upd {α : Type} [DecidableEq α] (f : α → Option Value) (x : α) (u v : Option Value) : upd (upd f x u) x v = upd f x v := by
  funext y
  unfold upd
  split <;> rfl
end Go.Proofs.YtjiolfpahollkaaGreatDoor.Mp
end
