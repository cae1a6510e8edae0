/- What the proof needs of Cnt: only what is used is left (wip/tools/prune.py). Conditions stand in each sentence. -/
import Derived.Test.YtioahkblhekgpaaGreatDoorQOPureAdmitFlat
set_option linter.unusedVariables false
set_option linter.unusedSimpArgs false
namespace Go.Proofs.YtioahkblhekgpaaGreatDoor.Adm
end Go.Proofs.YtioahkblhekgpaaGreatDoor.Adm
namespace Go.Proofs.YtioahkblhekgpaaGreatDoor.E
end Go.Proofs.YtioahkblhekgpaaGreatDoor.E
namespace Go.Proofs.YtioahkblhekgpaaGreatDoor.FltP
end Go.Proofs.YtioahkblhekgpaaGreatDoor.FltP
namespace Go.Proofs.YtioahkblhekgpaaGreatDoor.O
end Go.Proofs.YtioahkblhekgpaaGreatDoor.O
namespace Go.Proofs.YtioahkblhekgpaaGreatDoor.R
end Go.Proofs.YtioahkblhekgpaaGreatDoor.R
namespace Go.Proofs.YtioahkblhekgpaaGreatDoorW.PrintLast
end Go.Proofs.YtioahkblhekgpaaGreatDoorW.PrintLast
namespace Go.Proofs.YtioahkblhekgpaaGreatDoorW.PrintWords
end Go.Proofs.YtioahkblhekgpaaGreatDoorW.PrintWords
namespace Go.Proofs.YtioahkblhekgpaaGreatDoor.Pure
open Go.RowKit Go.Proofs.YtioahkblhekgpaaGreatDoor.R Go.Proofs.YtioahkblhekgpaaGreatDoor.E Go.Proofs.YtioahkblhekgpaaGreatDoor.O Go.Proofs.YtioahkblhekgpaaGreatDoor.FltP Go.Proofs.YtioahkblhekgpaaGreatDoorW.PrintWords Go.Proofs.YtioahkblhekgpaaGreatDoorW.PrintLast
open Go.Proofs.YtioahkblhekgpaaGreatDoor.Adm (S gp Wd WdB wd_to wd_of allF allF_ok flatAll unlAll unl_lt PT sgnAt zi ordAll twAll tw)
theorem cmp_at {l : List S} {a b : Nat} (hw : Wd l) (hg : ∀ x ∈ l, gp x = true) (ha : a < l.length) (hb : b < l.length) :
    Ev (fun k => admit_Cmp.f k (rd_T32 l (a : Int)).f0 (rd_T32 l (a : Int)).f1 (rd_T32 l (b : Int)).f0 (rd_T32 l (b : Int)).f1) (Adm.holdAt l a b) := by
  have wa := hw _ (Adm.rd_at ha)
  have wb := hw _ (Adm.rd_at hb)
  have h := cmp_ev' wa.1 wa.2 wb.1 wb.2
  rw [if_pos ⟨hg _ (Adm.rd_at ha), hg _ (Adm.rd_at hb)⟩] at h
  exact h
def tws (l : List S) : List Nat := (List.range l.length).map (tw (PT l))
theorem tws_len (l : List S) : (tws l).length = l.length := by unfold tws; simp
theorem tws_at {l : List S} {i : Nat} (h : i < l.length) : rd (zi (tws l)) (i : Int) = (tw (PT l) i : Nat) := by
  rw [rd_zi (by rw [tws_len]; exact h)]
  unfold tws
  rw [List.getD_eq_getElem?_getD, List.getElem?_eq_getElem (by simpa using h)]
  simp
theorem tw_lt {l : List S} {i : Nat} (h : i < l.length) : tw (PT l) i < l.length := Nat.lt_of_le_of_lt (Adm.tw_spec (PT l) i).1 h
theorem tw_same {P : Nat → Geo.Pt} {i k : Nat} : tw P i = tw P k ↔ P i = P k := by
  constructor
  · intro h
    have h1 := (Adm.tw_spec P i).2.1
    have h2 := (Adm.tw_spec P k).2.1
    rw [← h1, h, h2]
  · intro h
    exact Adm.tw_unique ((Adm.tw_spec P k).2.1.trans h.symm) (Adm.tw_spec P k).2.2
def cnt (l : List S) (i : Nat) : Nat := ((List.range i).filter (Adm.fst (PT l))).length
theorem cnt_succ (l : List S) (i : Nat) : cnt l (i + 1) = cnt l i + (if tw (PT l) i = i then 1 else 0) := by
  unfold cnt Adm.fst
  rw [List.range_succ, List.filter_append, List.length_append]
  by_cases h : tw (PT l) i = i
  · rw [if_pos h]; simp [h]
  · rw [if_neg h]; simp [h]
theorem cnt_le (l : List S) (i : Nat) : cnt l i ≤ i := by
  unfold cnt
  exact Nat.le_trans (List.length_filter_le _ _) (by simp)
theorem cnt_all {l : List S} (h : (allF l).2 = 0) : (unlAll l).length = cnt l l.length := by
  rw [Adm.unlAll_eq h]
  unfold cnt
  refine List.Perm.length_eq (List.Perm.filter _ ((List.perm_ext_iff_of_nodup (Geo.lt_nodup (Adm.orderN_sorted l).1) List.nodup_range).mpr fun x => ?_))
  rw [(Adm.orderN_sorted l).2, List.mem_range]
def Seen (l : List S) (o : List Nat) (i : Nat) (x : List Int) : Prop := x.length = l.length ∧ ∀ v, v < l.length → rd x (v : Int) = if v ∈ o.take i then 1 else 0
theorem seen_step {l : List S} {o : List Nat} {i : Nat} {x : List Int} (h : Seen l o i x) (hi : i < o.length) (ha : o.getD i 0 < l.length) : Seen l o (i + 1) (x.set (o.getD i 0) 1) := by
  refine ⟨by rw [List.length_set]; exact h.1, fun v hv => ?_⟩
  have e : o.take (i + 1) = o.take i ++ [o.getD i 0] := by
    rw [List.take_add_one, List.getD_eq_getElem?_getD, List.getElem?_eq_getElem hi]; rfl
  rw [e]
  by_cases hva : v = o.getD i 0
  · rw [if_pos (by rw [hva]; simp), ← hva]
    simp [rd, List.getD_eq_getElem?_getD, h.1, hv]
  · have h2 := h.2 v hv
    have : (v ∈ o.take i ++ [o.getD i 0]) ↔ v ∈ o.take i := by simp only [List.mem_append, List.mem_singleton]; exact ⟨fun h => h.elim id (fun h => absurd h hva), .inl⟩
    simp only [this]
    rw [← h2]
    clear e this h2 ha
    generalize o.getD i 0 = a at *
    simp only [rd, Int.toNat_natCast, List.getD_eq_getElem?_getD]
    rw [List.getElem?_set_ne (Ne.symm hva)]
theorem not_before {o : List Nat} (hn : o.Nodup) {i : Nat} (hi : i < o.length) : o.getD i 0 ∉ o.take i := by
  intro h
  rw [List.getD_eq_getElem?_getD, List.getElem?_eq_getElem hi] at h
  obtain ⟨j, hj, e⟩ := List.getElem_of_mem h
  rw [List.getElem_take] at e
  have hj' : j < i := by simp at hj; omega
  have := List.nodup_iff_pairwise_ne.mp hn
  exact (List.pairwise_iff_getElem.mp this) j i (by omega) hi hj' e
end Go.Proofs.YtioahkblhekgpaaGreatDoor.Pure
