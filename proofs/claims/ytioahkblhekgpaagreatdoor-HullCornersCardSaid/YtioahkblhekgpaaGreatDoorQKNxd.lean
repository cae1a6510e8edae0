/- What the proof needs of Nxb, Nxc, Nxd: only what is used is left (wip/tools/prune.py). Conditions stand in each sentence. -/
import Derived.Laws.CopyOwn
import Derived.Test.YtioahkblhekgpaaGreatDoorQKNwz
set_option linter.unusedVariables false
set_option linter.unusedSimpArgs false
namespace Go.Proofs.YtioahkblhekgpaaGreatDoor.Adm
end Go.Proofs.YtioahkblhekgpaaGreatDoor.Adm
namespace Go.Proofs.YtioahkblhekgpaaGreatDoor.E
end Go.Proofs.YtioahkblhekgpaaGreatDoor.E
namespace Go.Proofs.YtioahkblhekgpaaGreatDoor.FltP
end Go.Proofs.YtioahkblhekgpaaGreatDoor.FltP
namespace Go.Proofs.YtioahkblhekgpaaGreatDoor.NumP
end Go.Proofs.YtioahkblhekgpaaGreatDoor.NumP
namespace Go.Proofs.YtioahkblhekgpaaGreatDoor.O
end Go.Proofs.YtioahkblhekgpaaGreatDoor.O
namespace Go.Proofs.YtioahkblhekgpaaGreatDoor.R
end Go.Proofs.YtioahkblhekgpaaGreatDoor.R
namespace Go.Proofs.YtioahkblhekgpaaGreatDoorW.PrintLast
end Go.Proofs.YtioahkblhekgpaaGreatDoorW.PrintLast
namespace Go.Proofs.YtioahkblhekgpaaGreatDoorW.PrintMore
end Go.Proofs.YtioahkblhekgpaaGreatDoorW.PrintMore
namespace Go.Proofs.YtioahkblhekgpaaGreatDoorW.PrintWords
end Go.Proofs.YtioahkblhekgpaaGreatDoorW.PrintWords
namespace Go.Proofs.YtioahkblhekgpaaGreatDoor.Geo
section
variable {P : Nat → Pt}
theorem spread_add (u : List Nat) (z : Nat) : ∀ (L : List Nat) (b : Nat), spread P u (L ++ [b] ++ [z]) = spread P u (L ++ [b]) ++ fill P u b z ++ [z]
 | [], b => by simp [spread]
 | [a], b => by simp [spread]
 | a :: c :: L, b => by
  have ih := spread_add u z (c :: L) b
  show spread P u (a :: c :: (L ++ [b] ++ [z])) = spread P u (a :: c :: (L ++ [b])) ++ _ ++ _
  rw [spread, spread, show c :: (L ++ [b] ++ [z]) = (c :: L) ++ [b] ++ [z] from rfl, ih]
  simp
def outs (P : Nat → Pt) (u h : List Nat) : Nat → List Nat
 | 0 => []
 | i + 1 => outs P u h i ++ (h.getD i 0 :: fill P u (h.getD i 0) (h.getD ((i + 1) % h.length) 0))
theorem take_get (W : List Nat) {i : Nat} (h : i < W.length) : W.take (i + 1) = W.take i ++ [W.getD i 0] := by
 rw [List.take_add_one, List.getElem?_eq_getElem h, List.getD_eq_getElem?_getD, List.getElem?_eq_getElem h]; rfl
theorem outs_spread (u : List Nat) (u0 : Nat) (t : List Nat) : ∀ i, i ≤ (u0 :: t).length → spread P u ((u0 :: t ++ [u0]).take (i + 1)) = outs P u (u0 :: t) i ++ [(u0 :: t ++ [u0]).getD i 0]
 | 0, _ => by simp [spread, outs]
 | i + 1, hi => by
  have ih := outs_spread u u0 t i (by omega)
  obtain ⟨w1, w2⟩ := wrap_getD u0 t 0 (show i < (u0 :: t).length by omega)
  have hl : (u0 :: t ++ [u0]).length = (u0 :: t).length + 1 := by simp
  rw [take_get (u0 :: t ++ [u0]) (by omega : i < _)] at ih
  rw [take_get (u0 :: t ++ [u0]) (by omega : i + 1 < _), take_get (u0 :: t ++ [u0]) (by omega : i < _), spread_add, ih, outs, w1, w2]
  simp
theorem outs_le (u h : List Nat) : ∀ (k i : Nat), (outs P u h i).length ≤ (outs P u h (i + k)).length
 | 0, _ => Nat.le_refl _
 | k + 1, i => by
  have := outs_le u h k i
  rw [show i + (k + 1) = (i + k) + 1 from rfl, outs, List.length_append]
  omega
def part (P : Nat → Pt) (u : List Nat) (a b k : Nat) : List Nat := if Ahead (P a) (P b) then (u.take k).filter (inside P a b) else ((u.take k).filter (inside P a b)).reverse
theorem part_all (u : List Nat) (a b : Nat) : part P u a b u.length = fill P u a b := by unfold part fill; rw [List.take_length]
theorem part_mem {u : List Nat} {a b k q : Nat} (h : q ∈ part P u a b k) : q ∈ u.take k ∧ inside P a b q = true := by
 unfold part at h
 have : q ∈ (u.take k).filter (inside P a b) := by split at h <;> simpa using h
 exact List.mem_filter.mp this
theorem take_filter (f : Nat → Bool) (xs : List Nat) {i : Nat} (h : i < xs.length) : (xs.take (i + 1)).filter f = (xs.take i).filter f ++ (if f (xs.getD i 0) = true then [xs.getD i 0] else []) := by
 rw [take_get _ h, List.filter_append]
 split <;> simp_all
theorem part_no {u : List Nat} {a b k : Nat} (hk : k < u.length) (h : inside P a b (u.getD k 0) = false) : part P u a b (k + 1) = part P u a b k := by
 have e := take_filter (inside P a b) u hk
 rw [if_neg (by rw [h]; decide), List.append_nil] at e
 unfold part
 rw [e]
theorem part_yes {u : List Nat} {a b k : Nat} (hk : k < u.length) (h : inside P a b (u.getD k 0) = true) : part P u a b (k + 1) = if Ahead (P a) (P b) then part P u a b k ++ [u.getD k 0] else u.getD k 0 :: part P u a b k := by
 have e := take_filter (inside P a b) u hk
 rw [if_pos h] at e
 unfold part
 rw [e]
 split
 ·rfl
 ·rw [List.reverse_append]; rfl
def spot (P : Nat → Pt) (u : List Nat) (a b k : Nat) : Nat := if Ahead (P a) (P b) then (a :: part P u a b k).length else 1
theorem spot_ins {u : List Nat} {a b k : Nat} (hk : k < u.length) (h : inside P a b (u.getD k 0) = true) : (a :: part P u a b k).take (spot P u a b k) ++ [u.getD k 0] ++ (a :: part P u a b k).drop (spot P u a b k) = a :: part P u a b (k + 1) := by
 rw [part_yes hk h]
 unfold spot
 split
 ·rw [List.take_length, List.drop_length]; simp
 ·simp
theorem asc_take {u : List Nat} (hu : Asc P u) {k q : Nat} (hk : k < u.length) (hq : q ∈ u.take k) : Ahead (P q) (P (u.getD k 0)) := by
 obtain ⟨i, hi, rfl⟩ := List.mem_iff_getElem.mp hq
 rw [List.length_take] at hi
 rw [List.getElem_take, List.getD_eq_getElem?_getD, List.getElem?_eq_getElem hk]
 exact List.pairwise_iff_getElem.mp hu i k (by omega) hk (by omega)
theorem row_btw {u : List Nat} (hu : Asc P u) {a b k q : Nat} (hab : P a ≠ P b) (hk : k < u.length) (hq : q ∈ part P u a b k) (h : inside P a b (u.getD k 0) = true) :
 P a ≠ P q ∧ det (P a) (P q) (P (u.getD k 0)) = 0 ∧ ((P (u.getD k 0) = P a ∨ P (u.getD k 0) = P q ∨ Btw (P a) (P (u.getD k 0)) (P q)) ↔ ¬ Ahead (P a) (P b)) := by
 obtain ⟨hq1, hq2⟩ := part_mem hq
 have hA := asc_take hu hk hq1
 obtain ⟨dq, bq⟩ := inside_iff.mp hq2
 obtain ⟨dx, bx⟩ := inside_iff.mp h
 have e0 : det (P a) (P b) (P a) = 0 := by unfold det; grind
 refine ⟨?_, flat_of hab e0 dq dx, ?_⟩
 ·rcases bq with ⟨k1, -⟩ | ⟨-, k1⟩
  ·exact ahead_ne k1
  ·exact (ahead_ne k1).symm
 ·constructor
  ·intro hx hab2
   have b1 := btw_asc hab2 bq
   have b2 := btw_asc hab2 bx
   rcases hx with e | e | ⟨e1, e2⟩ | ⟨e1, e2⟩
   ·rw [e] at b2; exact Ahead.irrefl _ b2.1
   ·rw [e] at hA; exact Ahead.irrefl _ hA
   ·exact hA.asymm e2
   ·exact b2.1.asymm e2
  ·intro hn
   rcases bx with ⟨k1, k2⟩ | ⟨k1, k2⟩
   ·exact absurd (k1.trans k2) hn
   ·exact .inr (.inr (.inr ⟨hA, k2⟩))
end
end Go.Proofs.YtioahkblhekgpaaGreatDoor.Geo
namespace Go.Proofs.YtioahkblhekgpaaGreatDoor.Nw
open Go.RowKit Go.Proofs.YtioahkblhekgpaaGreatDoor.FltP Go.Proofs.YtioahkblhekgpaaGreatDoor.R Go.Proofs.YtioahkblhekgpaaGreatDoor.E Go.Proofs.YtioahkblhekgpaaGreatDoor.O Go.Proofs.YtioahkblhekgpaaGreatDoorW.PrintWords Go.Proofs.YtioahkblhekgpaaGreatDoorW.PrintLast Go.Proofs.YtioahkblhekgpaaGreatDoorW.PrintMore
open Go.Proofs.YtioahkblhekgpaaGreatDoor.NumP Go.Proofs.YtioahkblhekgpaaGreatDoor.Adm
theorem onS_iff {l : List S} {a b x : Nat} (hab : PT l a ≠ PT l b) : onS (at_ l a) (at_ l b) (at_ l x) = true ↔ Geo.det (PT l a) (PT l b) (PT l x) = 0 ∧ (PT l x = PT l a ∨ PT l x = PT l b ∨ Geo.Btw (PT l a) (PT l x) (PT l b)) := by
 have hs : sgnS (at_ l a) (at_ l b) (at_ l x) = (Geo.det (PT l a) (PT l b) (PT l x)).sign := rfl
 have ho : onS (at_ l a) (at_ l b) (at_ l x) = (decide (sgnS (at_ l a) (at_ l b) (at_ l x) = 0) && (decide (Geo.within (PT l a).1 (PT l b).1 (PT l x).1) && decide (Geo.within (PT l a).2 (PT l b).2 (PT l x).2))) := rfl
 rw [ho, hs, Bool.and_eq_true, Bool.and_eq_true, decide_eq_true_iff, decide_eq_true_iff, decide_eq_true_iff, Int.sign_eq_zero_iff_zero]
 constructor
 ·rintro ⟨h1, h2⟩; exact ⟨h1, (Geo.on_iff hab h1).mp h2⟩
 ·rintro ⟨h1, h2⟩; exact ⟨h1, (Geo.on_iff hab h1).mpr h2⟩
theorem rim_test {l : List S} (h0 : (allF l).2 = 0) {a b x : Nat} (ha : a ∈ unlAll l) (hb : b ∈ unlAll l) (hx : x ∈ unlAll l) (hab : a ≠ b) (hxa : x ≠ a) (hxb : x ≠ b) : onS (at_ l a) (at_ l b) (at_ l x) = Geo.inside (PT l) a b x := by
 have hA := unl_asc h0
 rw [Bool.eq_iff_iff, onS_iff (fun e => hab (asc_inj hA ha hb e)), Geo.inside_iff]
 constructor
 ·rintro ⟨h1, h2 | h2 | h2⟩
  ·exact absurd (asc_inj hA hx ha h2) hxa
  ·exact absurd (asc_inj hA hx hb h2) hxb
  ·exact ⟨h1, h2⟩
 ·rintro ⟨h1, h2⟩; exact ⟨h1, .inr (.inr h2)⟩
theorem rim_end {l : List S} {a b x : Nat} (h : x = a ∨ x = b) : Geo.inside (PT l) a b x = false := by
 cases hi : Geo.inside (PT l) a b x with
 | false => rfl
 | true =>
  exfalso
  obtain ⟨-, k⟩ := Geo.inside_iff.mp hi
  rcases h with rfl | rfl
  ·rcases k with ⟨k, -⟩ | ⟨-, k⟩ <;> exact Geo.Ahead.irrefl _ k
  ·rcases k with ⟨-, k⟩ | ⟨k, -⟩ <;> exact Geo.Ahead.irrefl _ k
theorem rim_row {l : List S} (h0 : (allF l).2 = 0) {a b k j : Nat} (ha : a ∈ unlAll l) (hb : b ∈ unlAll l) (hab : a ≠ b) (hk : k < (unlAll l).length) (hi : Geo.inside (PT l) a b ((unlAll l).getD k 0) = true) (hj : j < (Geo.part (PT l) (unlAll l) a b k).length) :
 onS (at_ l a) (at_ l ((a :: Geo.part (PT l) (unlAll l) a b k).getD (j + 1) 0)) (at_ l ((unlAll l).getD k 0)) = !decide (Geo.Ahead (PT l a) (PT l b)) := by
 have hA := unl_asc h0
 have hq : (a :: Geo.part (PT l) (unlAll l) a b k).getD (j + 1) 0 ∈ Geo.part (PT l) (unlAll l) a b k := by
  rw [List.getD_cons_succ, List.getD_eq_getElem?_getD, List.getElem?_eq_getElem hj]
  exact List.getElem_mem _
 obtain ⟨r1, r2, r3⟩ := Geo.row_btw hA (fun e => hab (asc_inj hA ha hb e)) hk hq hi
 rw [Bool.eq_iff_iff, onS_iff r1, Bool.not_eq_true', decide_eq_false_iff_not, r3]
 exact ⟨fun h => h.2, fun h => ⟨r2, h⟩⟩
theorem hull_three {l : List S} (h0 : (allF l).2 = 0) (h3 : 3 ≤ (unlAll l).length) (hf : flatAll l = false) : 2 < (hullAll l false).length := by
 obtain ⟨f1, -, -, -, -⟩ := hull_facts h0 (by omega)
 rcases Nat.lt_or_ge 2 (hullAll l false).length with h | h
 ·exact h
 ·exfalso
  have hn : (hullAll l false).length = 2 := by omega
  have hr := hp_ring h0 f1
  have e1 := hr.at (j := 0) (by rw [hp_len]; omega)
  have e2 := hr.at (j := 1) (by rw [hp_len]; omega)
  rw [hp_len, hn] at e1 e2
  simp only [Nat.zero_add, Nat.reduceAdd, Nat.reduceMod] at e1 e2
  have key : ∀ c, c < l.length → Geo.det ((hp l).getD 0 (0, 0)) ((hp l).getD 1 (0, 0)) (PT l c) = 0 := fun c hc => by
   have k1 := (e1.2.2.2 (PT l c) ⟨c, hc, rfl⟩).1
   have k2 := (e2.2.2.2 (PT l c) ⟨c, hc, rfl⟩).1
   have := Geo.det_swap ((hp l).getD 0 (0, 0)) ((hp l).getD 1 (0, 0)) (PT l c)
   omega
  have : flatAll l = true := (flat_iff h0).mpr fun a ha b hb c hc => Geo.flat_of e1.2.2.1 (key a ha) (key b hb) (key c hc)
  rw [hf] at this
  cases this
theorem rim_outs {l : List S} (h0 : (allF l).2 = 0) (h3 : 2 < (hullAll l false).length) : Geo.outs (PT l) (unlAll l) (hullAll l false) (hullAll l false).length = hullAll l true := by
 obtain ⟨u0, t, e, hsp, -, -⟩ := rim_spread h0 h3
 rw [e]
 have h1 := Geo.outs_spread (P := PT l) (unlAll l) u0 t (u0 :: t).length (Nat.le_refl _)
 have h2 : (u0 :: t ++ [u0]).take ((u0 :: t).length + 1) = u0 :: t ++ [u0] := List.take_of_length_le (by simp)
 have h4 : (u0 :: t ++ [u0]).getD (u0 :: t).length 0 = u0 := by
  rw [List.getD_eq_getElem?_getD, List.getElem?_append_right (Nat.le_refl _), Nat.sub_self]; rfl
 rw [h2, h4, ← hsp] at h1
 exact (List.append_cancel_right h1).symm
theorem rim_few {l : List S} (h0 : (allF l).2 = 0) (h : (unlAll l).length < 3 ∨ flatAll l = true) : hullAll l true = unlAll l := by
 unfold hullAll
 rw [if_neg (by simp [h0])]
 split
 ·rfl
 ·rename_i h3
  rcases h with h | h
  ·exact absurd h h3
  ·rw [if_pos h, if_pos rfl]
end Go.Proofs.YtioahkblhekgpaaGreatDoor.Nw
namespace Go.Proofs.YtioahkblhekgpaaGreatDoor.Nw
open Go.RowKit Go.Proofs.YtioahkblhekgpaaGreatDoor.FltP Go.Proofs.YtioahkblhekgpaaGreatDoor.R Go.Proofs.YtioahkblhekgpaaGreatDoor.E Go.Proofs.YtioahkblhekgpaaGreatDoor.O Go.Proofs.YtioahkblhekgpaaGreatDoorW.PrintWords Go.Proofs.YtioahkblhekgpaaGreatDoorW.PrintLast Go.Proofs.YtioahkblhekgpaaGreatDoorW.PrintMore
open Go.Proofs.YtioahkblhekgpaaGreatDoor.NumP Go.Proofs.YtioahkblhekgpaaGreatDoor.Adm
theorem row_whole {w : World} {base n c : Nat} {A : Option Addr} {xs : List Nat} (h : Kd.R (Kd.int .i64) 3 w base (fun _ => True) (.slice A n c) (zi xs)) (hn : xs.length = n) (h0 : 0 < n) :
 ∃ g tl, A = some ⟨g, 0, none⟩ ∧ base ≤ g ∧ w.heap[g]? = some (.cells (encs (Value.int .i64) (zi xs) ++ tl).toArray 3 (0, 0)) ∧ n + tl.length = c ∧ c ≤ maxLen := by
 have HO := Kd.own_of_R h
 rw [zi_length, hn] at HO
 obtain ⟨-, ⟨he, h1⟩ | ⟨g, cap, cur, he, hg, hh, hnc, hcm, hsz, htk⟩⟩ := HO
 ·omega
 ·injection he with e1 e2 e3
  subst e1 e3
  refine ⟨g, cur.toList.drop n, rfl, hg, ?_, ?_, hcm⟩
  ·rw [← htk, Nat.mul_one, List.take_append_drop]
   simpa using hh
  ·simp; omega
theorem row_of_whole {w : World} {base n c g : Nat} {ys : List Nat} {tl : List Value} (hh : w.heap[g]? = some (.cells (encs (Value.int .i64) (zi ys) ++ tl).toArray 3 (0, 0))) (hg : base ≤ g) (hn : ys.length = n) (hc : n + tl.length = c) (hm : c ≤ maxLen) :
 Kd.R (Kd.int .i64) 3 w base (fun _ => True) (.slice (some ⟨g, 0, none⟩) n c) (zi ys) := by
 subst hn hc
 have hl : (encs (Value.int .i64) (zi ys)).length = ys.length := by rw [encs_length, zi_length]
 have h1 : (zi ys).length = ys.length := zi_length ys
 refine Kd.R_of_own ⟨by rw [hl, h1, Nat.mul_one], .inr ⟨g, _, _, by rw [h1], hg, hh, by rw [h1]; omega, hm, by simp only [List.size_toArray, List.length_append, hl, Nat.mul_one], ?_⟩⟩ (fun _ _ => trivial)
 rw [h1, Nat.mul_one]
 exact List.take_left' hl
theorem encs_zi (xs : List Nat) : encs (Value.int .i64) (zi xs) = xs.map fun n : Nat => Value.int .i64 (n : Int) := by unfold encs zi; rw [List.map_map]; rfl
theorem ins_cells (xs : List Nat) (x j : Nat) (tl : List Value) (hj : j ≤ xs.length) :
 (splice (encs (Value.int .i64) (zi (xs ++ [x])) ++ tl) (j + 1) (encs (Value.int .i64) (zi (xs.drop j)))).toArray.setIfInBounds j (.int .i64 (x : Int)) = (encs (Value.int .i64) (zi (xs.take j ++ [x] ++ xs.drop j)) ++ tl).toArray := by
 rw [encs_zi, encs_zi, encs_zi, List.setIfInBounds_toArray]
 congr 1
 unfold splice
 simp only [List.map_append, List.map_cons, List.map_nil, List.length_map, List.length_drop]
 generalize hf : (fun n : Nat => Value.int .i64 (n : Int)) = f
 have e1 : (xs.map f ++ [Value.int .i64 (x : Int)] ++ tl).take (j + 1) = (xs.map f).take j ++ [((xs.map f ++ [Value.int .i64 (x : Int)])[j]'(by simp; omega))] := by
  rw [List.take_append_of_le_length (by simp; omega), List.take_succ_eq_append_getElem (by simp; omega), List.take_append_of_le_length (by simpa using hj)]
 have e2 : (xs.map f ++ [Value.int .i64 (x : Int)] ++ tl).drop (j + 1 + (xs.length - j)) = tl := List.drop_left' (by simp; omega)
 rw [e1, e2]
 have hl : ((xs.map f).take j).length = j := by rw [List.length_take, List.length_map]; omega
 generalize (xs.map f ++ [Value.int .i64 (x : Int)])[j]'_ = y
 rw [List.append_assoc, List.set_append_right _ _ (by omega), hl, Nat.sub_self]
 simp [List.map_take, List.map_drop]
theorem step_ins {ops : Array Oper} {o : Oper} {a : Act} {w : World} {K : Act → World → Prop} {Q : Exit → Act → World → Prop} {E : Prop} (hgd : o.guard = none) (d s : Operand)
 (ho : o.op = .call { callee := .builtin .copy, args := #[d, s], argTypes := #[26, 26] }) {xs : List Nat} {x j n c g base dl dc sl sc : Nat} {dp sp : Option Addr} {tl : List Value} {w0 : World}
 (hd : a.eval d = .slice dp dl dc) (hs : a.eval s = .slice sp sl sc) (hh : w.heap[g]? = some (.cells (encs (Value.int .i64) (zi (xs ++ [x])) ++ tl).toArray 3 (0, 0))) (hn : xs.length = n) (hj : j ≤ n) (hc : n + 1 + tl.length = c)
 (hdp : dp = if c = j + 1 then some ⟨g, 0, none⟩ else (some (⟨g, 0, none⟩ : Addr)).map (·.add ((j + 1) * 1))) (hdl : dl = n + 1 - (j + 1)) (hsp : sp = if c = j then some ⟨g, 0, none⟩ else (some (⟨g, 0, none⟩ : Addr)).map (·.add (j * 1))) (hsl : sl = n + 1 - j)
 (hb : Below base w0 w) (hbg : base ≤ g)
 (h : ∀ w', Hid (w'.heap[g]? = some (.cells (splice (encs (Value.int .i64) (zi (xs ++ [x])) ++ tl) (j + 1) (encs (Value.int .i64) (zi (xs.drop j)))).toArray 3 (0, 0))) → Below base w0 w' → K (a.put o.dst (goInt (encs (Value.int .i64) (zi (xs.drop j))).length)) w') :
 if Region.wanted o (yielded ops a.tmps) = true then Oper.wp Tryz.prog o a w K Q else E := by
 subst hn hc hdl hsl
 have hl : (encs (Value.int .i64) (zi (xs.drop j))).length = xs.length - j := by rw [encs_length, zi_length, List.length_drop]
 have hl2 : (encs (Value.int .i64) (zi (xs ++ [x]))).length = xs.length + 1 := by rw [encs_length, zi_length, List.length_append]; rfl
 refine step_copy_splice hgd d s 26 26 ho 3 Tryz.underlying26 (by kernel_rfl) dp sp _ dc _ sc hd hs g (j + 1) _ 3 hh _ (by rw [hl]; simp only [Nat.min_def]; split <;> omega) (fun h0 => ?_) (by rw [hl, List.length_append, hl2]; omega) (fun v hv => ?_) base w0 hb hbg h
 ·rw [hl] at h0
  rw [if_neg (by omega)] at hdp hsp
  refine ⟨by rw [hdp]; simp [Addr.add], ⟨g, j, none⟩, by rw [hsp]; simp [Addr.add]; omega, fun q v hq => ?_⟩
  have hq2 : q < xs.length - j := by have := (List.getElem?_eq_some_iff.mp hq).1; omega
  rw [Addr.add_lit, blk_cell hh, List.getElem?_toArray, List.getElem?_append_left (by omega), encs_zi, List.map_append, List.getElem?_append_left (by rw [List.length_map]; omega)]
  rw [encs_zi, List.map_drop, List.getElem?_drop] at hq
  exact hq
 ·rw [encs_zi] at hv
  obtain ⟨y, -, rfl⟩ := List.mem_map.mp hv
  rfl
theorem part_zero (P : Nat → Geo.Pt) (u : List Nat) (a b : Nat) : Geo.part P u a b 0 = [] := by unfold Geo.part; simp
theorem part_le {P : Nat → Geo.Pt} {u : List Nat} {a b k : Nat} : (Geo.part P u a b k).length ≤ u.length := by
 unfold Geo.part
 have h1 := List.length_filter_le (Geo.inside P a b) (u.take k)
 have h2 : (u.take k).length ≤ u.length := by rw [List.length_take]; omega
 split
 ·omega
 ·rw [List.length_reverse]; omega
set_option maxRecDepth 100000 in
set_option maxHeartbeats 4000000 in
theorem rim20_bad (A : Option Addr) (c : Nat) (l : List S) (w : World) (hl : Kd.C k32 w A l.length l) (hc : l.length ≤ c) (hw : Wd l) (h0 : (allF l).2 ≠ 0) :
 Calls Tryz.prog 36 #[.slice A l.length c] w (AroPost l true w) := by
 have ha := hull20_calls A c l w hl hc hw
 have e1 : ((allF l).2 != 0) = true := bne_iff_ne.mpr h0
 have e2 : decide ((allF l).2 = 0) = false := decide_eq_false h0
 have hh : hullAll l true = [] := by unfold hullAll; rw [if_pos h0]
 unfold AroPost at ha ⊢
 rw [hh]
 clear h0 hh
 generalize (allF l).2 = f at *
 go_enter Tryz.func36, Tryz.ntmps36
 go_wp2_with (go_at_call 35; (with_reducible refine ha.mono ?_); rintro u w1 ⟨v1, rfl, hR1, hb1⟩)
 go_ret2
 exact ⟨_, rfl, Kd.R_nil .., hb1⟩
set_option maxRecDepth 100000 in
set_option maxHeartbeats 4000000 in
theorem rim20_few (A : Option Addr) (c : Nat) (l : List S) (w : World) (hl : Kd.C k32 w A l.length l) (hc : l.length ≤ c) (hw : Wd l) (h0 : (allF l).2 = 0) (h2 : (unlAll l).length < 3 ∨ flatAll l = true) :
 Calls Tryz.prog 36 #[.slice A l.length c] w (AroPost l true w) := by
 have ha := hull20_calls A c l w hl hc hw
 have hun := fun W (hb : Below w.heap.size w W) => unlike07_calls A c l W (Kd.C_below hl hb) hc h0
 have hfl := fun W (hb : Below w.heap.size w W) => flat07_calls A c l W (Kd.C_below hl hb) hc h0
 have hh := rim_few h0 h2
 unfold AroPost at ha ⊢
 rw [hh]
 rw [h0] at ha ⊢
 clear h0 hh hl hw
 generalize unlAll l = u at *
 generalize flatAll l = fl at *
 obtain ⟨m, hm⟩ : ∃ m, m = u.length := ⟨_, rfl⟩
 rw [← hm] at h2
 have HM := Aside0.mk hm
 clear hm
 rcases h2 with h2 | h2
 ·have d1 : decide ((m : Int) < 3) = true := by simp; omega
  have d2 : decide (m < 3) = true := by simp; omega
  go_enter Tryz.func36, Tryz.ntmps36
  go_wp2_with (first
   | (go_at_call 35; (with_reducible refine ha.mono ?_); rintro u_ w1 ⟨v1, rfl, hR1, hb1⟩)
   | (go_at_call 21; (with_reducible refine (hun _ hb1).mono ?_); rintro u_ w2 ⟨v2, rfl, hR2, hb2⟩; obtain ⟨A2, c2, rfl⟩ := Kd.R_slice hR2; rw [zi_length, ← HM.out] at hR2 ⊢))
  go_ret2
  exact ⟨_, rfl, Kd.R_lower hR2 hb1.size, hb1.trans (hb2.mono hb1.size)⟩
 ·subst h2
  by_cases h3 : m < 3
  ·have d1 : decide ((m : Int) < 3) = true := by simp; omega
   have d2 : decide (m < 3) = true := by simp; omega
   go_enter Tryz.func36, Tryz.ntmps36
   go_wp2_with (first
    | (go_at_call 35; (with_reducible refine ha.mono ?_); rintro u_ w1 ⟨v1, rfl, hR1, hb1⟩)
    | (go_at_call 21; (with_reducible refine (hun _ hb1).mono ?_); rintro u_ w2 ⟨v2, rfl, hR2, hb2⟩; obtain ⟨A2, c2, rfl⟩ := Kd.R_slice hR2; rw [zi_length, ← HM.out] at hR2 ⊢))
   go_ret2
   exact ⟨_, rfl, Kd.R_lower hR2 hb1.size, hb1.trans (hb2.mono hb1.size)⟩
  ·have d1 : decide ((m : Int) < 3) = false := by simp; omega
   have d2 : decide (m < 3) = false := by simp; omega
   go_enter Tryz.func36, Tryz.ntmps36
   go_wp2_with (first
    | (go_at_call 35; (with_reducible refine ha.mono ?_); rintro u_ w1 ⟨v1, rfl, hR1, hb1⟩)
    | (go_at_call 21; (with_reducible refine (hun _ hb1).mono ?_); rintro u_ w2 ⟨v2, rfl, hR2, hb2⟩; obtain ⟨A2, c2, rfl⟩ := Kd.R_slice hR2; rw [zi_length, ← HM.out] at hR2 ⊢; have hB2 := hb1.trans (hb2.mono hb1.size))
    | (go_at_call 22; (with_reducible refine (hfl _ hB2).mono ?_); rintro u_ w3 ⟨rfl, hb3⟩; have hB3 := hB2.trans (hb3.mono hB2.size); have hR3 := Kd.R_below hR2 hb3))
   go_ret2
   exact ⟨_, rfl, Kd.R_lower hR3 hb1.size, hB3⟩
set_option maxRecDepth 100000 in
set_option maxHeartbeats 8000000 in
theorem rim20_main (A : Option Addr) (c : Nat) (l : List S) (w : World) (hl : Kd.C k32 w A l.length l) (hc : l.length ≤ c) (hw : Wd l) (h0 : (allF l).2 = 0) (h3 : 3 ≤ (unlAll l).length) (hf : flatAll l = false) :
 Calls Tryz.prog 36 #[.slice A l.length c] w (AroPost l true w) := by
 have hu32 := Tryz.underlying32
 have ha := hull20_calls A c l w hl hc hw
 have hun := fun W (hb : Below w.heap.size w W) => unlike07_calls A c l W (Kd.C_below hl hb) hc h0
 have hfl := fun W (hb : Below w.heap.size w W) => flat07_calls A c l W (Kd.C_below hl hb) hc h0
 have hgp := ((allF_ok l).mp h0).2
 have hln := ((allF_ok l).mp h0).1
 have hk : (unlAll l).length ≤ 1048576 := by
  have h3 := List.length_filter_le (fst (PT l)) (orderN l)
  rw [← unlAll_eq h0, (orderN_sorted l).length] at h3
  omega
 have h3n := hull_three h0 h3 hf
 obtain ⟨f1, f2, f3, f4, f5⟩ := hull_facts h0 (by omega)
 have hro := rim_outs h0 h3n
 have hle := hull_len l true h0
 have hul := unl_lt l
 have hrt := fun a b x ha hb hx hab hxa hxb => @rim_test l h0 a b x ha hb hx hab hxa hxb
 have hrr := fun a b k j ha hb hab hk hi hj => @rim_row l h0 a b k j ha hb hab hk hi hj
 have hon : ∀ i j k, i < l.length → j < l.length → k < l.length → ∀ W, Calls Tryz.prog 67 #[.agg #[.float .f64 (at_ l i).f0, .float .f64 (at_ l i).f1], .agg #[.float .f64 (at_ l j).f0, .float .f64 (at_ l j).f1], .agg #[.float .f64 (at_ l k).f0, .float .f64 (at_ l k).f1]] W fun e w' => e = .returned (.bool (onS (at_ l i) (at_ l j) (at_ l k))) ∧ Below W.heap.size W w' :=
  fun i j k hi hj hk W => on04_call (hgp _ (rd_at hi)) (hgp _ (rd_at hj)) (hgp _ (rd_at hk)) W
 have HON := Aside0.mk hon
 unfold AroPost at ha ⊢
 rw [h0] at ha ⊢
 rw [hf] at hfl
 rw [← hro] at hle ⊢
 clear h0 hw hf hgp hon hro f3
 generalize hullAll l false = H at *
 generalize unlAll l = u at *
 have HRT := Aside0.mk (And.intro hrt hrr)
 clear hrt hrr
 obtain ⟨m, hm⟩ : ∃ m, m = u.length := ⟨_, rfl⟩
 obtain ⟨n, hn⟩ : ∃ n, n = H.length := ⟨_, rfl⟩
 rw [← hn] at hle ⊢
 rw [← hm] at h3 hk f2 hle
 rw [← hn] at f1 f2 f5 h3n
 have HM := Aside0.mk (And.intro hm hn)
 have HU := Aside0.mk (And.intro hul (And.intro f5 f4))
 have HLE : Aside0 (∀ i, i ≤ n → (Geo.outs (PT l) u H i).length ≤ 2 * m) := ⟨fun i hi => by
  have := Geo.outs_le (P := PT l) u H (n - i) i
  rw [show i + (n - i) = n by omega] at this
  omega⟩
 clear hm hn hul f5 f4 hle
 have d1 : decide ((m : Int) < 3) = false := by simp; omega
 have d2 : decide (m < 3) = false := by simp; omega
 go_enter Tryz.func36, Tryz.ntmps36
 go_wp2_with (first
  | (go_at_call 35; (with_reducible refine ha.mono ?_); rintro u_ w1 ⟨v1, rfl, hR1, hb1⟩; obtain ⟨A1, c1, rfl⟩ := Kd.R_slice hR1; have hC1 := (Kd.R_reads' hR1).2.2; rw [zi_length, ← HM.out.2] at hC1 ⊢; clear hR1)
  | (go_at_call 21; (with_reducible refine (hun _ hb1).mono ?_); rintro u_ w2 ⟨v2, rfl, hR2, hb2⟩; obtain ⟨A2, c2, rfl⟩ := Kd.R_slice hR2; have hC2 := (Kd.R_reads' hR2).2.2; rw [zi_length, ← HM.out.1] at hC2 ⊢; have hB2 := hb1.trans (hb2.mono hb1.size); replace hC1 := Kd.C_below hC1 hb2; clear hR2 hb2)
  | (go_at_call 22; (with_reducible refine (hfl _ hB2).mono ?_); rintro u_ w3 ⟨rfl, hb3⟩; have hB3 := hB2.trans (hb3.mono hB2.size); replace hC1 := Kd.C_below hC1 hb3; replace hC2 := Kd.C_below hC2 hb3; clear hb1 hB2 hb3; obtain ⟨qb, qo, rfl, hy⟩ := row_at hC1 (by omega); obtain ⟨ub, uo, rfl, hz⟩ := row_at hC2 (by omega); have HY := Aside0.mk hy; have HZ := Aside0.mk hz; clear hy hz hC1 hC2 ha hun hfl))
 have hl3 := Kd.C_below hl hB3
 clear hl
 go_loopw [7, 8] (fun v7 v8 wr => ∃ i : Nat, i ≤ n ∧ v8 = .int .i64 i ∧ Kd.R (Kd.int .i64) 3 wr w3.heap.size (fun _ => True) v7 (zi (Geo.outs (PT l) u H i)) ∧ Below w3.heap.size w3 wr) (fun _ v8 _ => n - (intOf v8).toNat)
 case atStart => exact ⟨0, Nat.zero_le _, rfl, Kd.R_nil .., Below.refl _ _⟩
 case round =>
  obtain ⟨i, hi, rfl, hR, hB⟩ := hrel
  obtain ⟨A7, c7, rfl⟩ := Kd.R_slice hR
  rw [zi_length] at hR ⊢
  obtain ⟨q7, hq7⟩ : ∃ q7, q7 = (Geo.outs (PT l) u H i).length := ⟨_, rfl⟩
  have hle7 : q7 ≤ 2 * m := by rw [hq7]; exact HLE.out i hi
  rw [← hq7] at hR ⊢
  have HQ7 := Aside0.mk hq7
  clear hq7
  by_cases hin : i < n
  ·obtain ⟨j, hj⟩ : ∃ j, j = (i + 1) % n := ⟨_, rfl⟩
   have hjn : j < n := by rw [hj]; exact Nat.mod_lt _ (by omega)
   have q0 := bcell hB (HY.out i hin)
   have q1 := bcell hB (HY.out j hjn)
   rw [rdz (by rw [← HM.out.2]; omega)] at q0 q1
   have hau := HU.out.2.1 i hin
   have hbu := HU.out.2.1 j hjn
   have hij : i ≠ j := fun e => by
    rcases Nat.lt_or_ge (i + 1) n with h | h
    ·rw [Nat.mod_eq_of_lt h] at hj; omega
    ·rw [show i + 1 = n by omega, Nat.mod_self] at hj; omega
   have hab : H.getD i 0 ≠ H.getD j 0 := fun e => by
    rw [getD_at (by rw [← HM.out.2]; omega), getD_at (by rw [← HM.out.2]; omega)] at e
    exact hij ((List.getElem_inj HU.out.2.2).mp e)
   have hos : Geo.outs (PT l) u H (i + 1) = Geo.outs (PT l) u H i ++ (H.getD i 0 :: Geo.fill (PT l) u (H.getD i 0) (H.getD j 0)) := by rw [Geo.outs, ← HM.out.2, ← hj]
   have i1 : IntKind.i64.wrap ((i : Int) + 1) = (i : Int) + 1 := wrapI _ (by omega) (by omega)
   have i3 : ((i : Int) + 1) % (n : Int) = (j : Int) := by rw [hj, Int.natCast_emod]; rfl
   have i2 : Int.tmod ((i : Int) + 1) (n : Int) = (j : Int) := by rw [Int.tmod_eq_emod_of_nonneg (by omega)]; exact i3
   have i6 : ((n : Int) = 0) = False := eq_false (by omega)
   have i7 : (n = 0) = False := eq_false (by omega)
   have e1 : decide ((i : Int) < (n : Int)) = true := by simp; omega
   have e2 : decide (i < n) = true := by simp; omega
   have e3 : decide ((j : Int) < (n : Int)) = true := by simp; omega
   have e4 : decide (j < n) = true := by simp; omega
   have HJ := Aside0.mk hj
   clear hj hij
   obtain ⟨a, hae⟩ : ∃ a, a = H.getD i 0 := ⟨_, rfl⟩
   obtain ⟨b, hbe⟩ : ∃ b, b = H.getD j 0 := ⟨_, rfl⟩
   rw [← hae] at q0 hau hab hos
   rw [← hbe] at q1 hbu hab hos
   have HOS := Aside0.mk hos
   have HAU := Aside0.mk (And.intro hau (And.intro hbu hab))
   clear hos hau hbu hab hae hbe
   go_wp2
   go_quiet (fail)
   replace hB := pw_below_drewN hB nq
   replace hR := Kd.R_below hR (pw_below_drewN (Below.refl wr.heap.size wr) nq)
   clear q0 q1
   generalize wr.drewN nq = wa at *
   go_wp2
   go_loopw [11, 12] (fun v11 v12 wq => ∃ k : Nat, k ≤ m ∧ v12 = .int .i64 k ∧ Kd.R (Kd.int .i64) 3 wq wa.heap.size (fun _ => True) v11 (zi (a :: Geo.part (PT l) u a b k)) ∧ Below wa.heap.size wa wq) (fun _ v12 _ => m - (intOf v12).toNat)
   case atStart =>
    refine ⟨0, Nat.zero_le _, rfl, ?_, below_alloc (Below.refl _ _) _⟩
    rw [part_zero]
    exact one_own a (Nat.le_refl _)
   case round =>
    obtain ⟨k, hkm, rfl, hR2, hB2⟩ := hrel
    obtain ⟨A11, c11, rfl⟩ := Kd.R_slice hR2
    rw [zi_length] at hR2 ⊢
    obtain ⟨r, hr⟩ : ∃ r, r = (a :: Geo.part (PT l) u a b k).length := ⟨_, rfl⟩
    have hr1 : 1 ≤ r := by rw [hr]; simp
    have hrm : r ≤ m + 1 := by rw [hr, List.length_cons]; have := @part_le (PT l) u a b k; have := HM.out.1; omega
    rw [← hr] at hR2 ⊢
    have HR_ := Aside0.mk hr
    clear hr
    have hBq := hB.trans (hB2.mono hB.size)
    by_cases hkl : k < m
    ·have hku : k < u.length := by rw [← HM.out.1]; exact hkl
     have hxu : u.getD k 0 ∈ u := by rw [getD_at hku]; exact List.getElem_mem _
     have gk := bcell hBq (HZ.out k hkl)
     rw [rdz hku] at gk
     have hal := HU.out.1 a HAU.out.1
     have hbl := HU.out.1 b HAU.out.2.1
     have hxl := HU.out.1 _ hxu
     have hpn := @Geo.part_no (PT l) u a b k hku
     have hsi := @Geo.spot_ins (PT l) u a b k hku
     have hrw := fun j => HRT.out.2 a b k j HAU.out.1 HAU.out.2.1 HAU.out.2.2 hku
     have hts := HRT.out.1 a b (u.getD k 0) HAU.out.1 HAU.out.2.1 hxu HAU.out.2.2
     obtain ⟨x, hx⟩ : ∃ x, x = u.getD k 0 := ⟨_, rfl⟩
     rw [← hx] at gk hxl hpn hsi hrw hts
     have HPN := Aside0.mk hpn
     have HSI := Aside0.mk hsi
     have HRW := Aside0.mk hrw
     have HTS := Aside0.mk hts
     have d3 : decide ((k : Int) < (m : Int)) = true := by simp; omega
     have d4 : decide (k < m) = true := by simp; omega
     have i4 : IntKind.i64.wrap ((k : Int) + 1) = (k : Int) + 1 := wrapI _ (by omega) (by omega)
     clear hpn hsi hrw hts hx hku hxu
     by_cases hxa : x = a
     ·subst hxa
      have HE : Aside0 (Geo.part (PT l) u x b (k + 1) = Geo.part (PT l) u x b k) := ⟨HPN.out (rim_end (.inl rfl))⟩
      go_wp2
      go_quiet (fail)
      go_wp2
      exact ⟨⟨k + 1, by omega, by go_num, by rw [HE.out]; exact Kd.R_below hR2 (pw_below_drewN (Below.refl _ _) _), pw_below_drewN hB2 _⟩, by simp [intOf]; omega⟩
     ·have a1 : ((x : Int) == (a : Int)) = false := beq_eq_false_iff_ne.mpr (by omega)
      have a2 : (x == a) = false := beq_eq_false_iff_ne.mpr hxa
      by_cases hxb : x = b
      ·subst hxb
       have HE : Aside0 (Geo.part (PT l) u a x (k + 1) = Geo.part (PT l) u a x k) := ⟨HPN.out (rim_end (.inr rfl))⟩
       clear hxa
       go_wp2
       go_quiet (fail)
       go_wp2
       exact ⟨⟨k + 1, by omega, by go_num, by rw [HE.out]; exact Kd.R_below hR2 (pw_below_drewN (Below.refl _ _) _), pw_below_drewN hB2 _⟩, by simp [intOf]; omega⟩
      ·have b1 : ((x : Int) == (b : Int)) = false := beq_eq_false_iff_ne.mpr (by omega)
       have b2 : (x == b) = false := beq_eq_false_iff_ne.mpr hxb
       have hts := HTS.out hxa hxb
       clear hxa hxb HTS
       obtain ⟨ab, ao, rfl, hpt⟩ := pts_at (Kd.C_below hl3 hBq) (by omega)
       replace hpt : ∀ j, j < l.length → wr.cell? ⟨ab, ao + j * 2, none⟩ = some (.float .f64 (at_ l j).f0) ∧ wr.cell? ⟨ab, ao + j * 2 + 1, none⟩ = some (.float .f64 (at_ l j).f1) := hpt
       obtain ⟨za0, za1⟩ := hpt a hal
       obtain ⟨zb0, zb1⟩ := hpt b hbl
       obtain ⟨zx0, zx1⟩ := hpt x hxl
       have HPT := Aside0.mk hpt
       clear hpt
       have hon := HON.out a b x hal hbl hxl
       generalize onS (at_ l a) (at_ l b) (at_ l x) = ob at *
       have hS : wr.cell? ⟨ab, ao + a * 2, none⟩ = some (.float .f64 (at_ l a).f0) ∧ wr.cell? ⟨ab, ao + a * 2 + 1, none⟩ = some (.float .f64 (at_ l a).f1) ∧ wr.cell? ⟨ab, ao + b * 2, none⟩ = some (.float .f64 (at_ l b).f0) ∧ wr.cell? ⟨ab, ao + b * 2 + 1, none⟩ = some (.float .f64 (at_ l b).f1) ∧ wr.cell? ⟨ab, ao + x * 2, none⟩ = some (.float .f64 (at_ l x).f0) ∧ wr.cell? ⟨ab, ao + x * 2 + 1, none⟩ = some (.float .f64 (at_ l x).f1) := ⟨za0, za1, zb0, zb1, zx0, zx1⟩
       clear za0 za1 zb0 zb1 zx0 zx1
       have f1 : decide ((a : Int) < (l.length : Int)) = true := by simp; omega
       have f2 : decide (a < l.length) = true := by simp; omega
       have f3 : decide ((b : Int) < (l.length : Int)) = true := by simp; omega
       have f4 : decide (b < l.length) = true := by simp; omega
       have f5 : decide ((x : Int) < (l.length : Int)) = true := by simp; omega
       have f6 : decide (x < l.length) = true := by simp; omega
       have hb0 := Below.refl wr.heap.size wr
       obtain ⟨pa, hpa⟩ : ∃ pa, pa = at_ l a := ⟨_, rfl⟩
       obtain ⟨pb, hpb⟩ : ∃ pb, pb = at_ l b := ⟨_, rfl⟩
       obtain ⟨px, hpx⟩ : ∃ px, px = at_ l x := ⟨_, rfl⟩
       rw [← hpa, ← hpb, ← hpx] at hS hon
       have HPA := Aside0.mk (And.intro hpa hpx)
       clear hpa hpb hpx
       cases ob
       ·have HE : Aside0 (Geo.part (PT l) u a b (k + 1) = Geo.part (PT l) u a b k) := ⟨HPN.out hts.symm⟩
        clear hts
        go_wp2
        go_region_held3 (fun W' => W'.cell? ⟨ab, ao + a * 2, none⟩ = some (.float .f64 pa.f0) ∧ W'.cell? ⟨ab, ao + a * 2 + 1, none⟩ = some (.float .f64 pa.f1) ∧ W'.cell? ⟨ab, ao + b * 2, none⟩ = some (.float .f64 pb.f0) ∧ W'.cell? ⟨ab, ao + b * 2 + 1, none⟩ = some (.float .f64 pb.f1) ∧ W'.cell? ⟨ab, ao + x * 2, none⟩ = some (.float .f64 px.f0) ∧ W'.cell? ⟨ab, ao + x * 2 + 1, none⟩ = some (.float .f64 px.f1))
         (first | exact hS | (refine six_below2 ?_ hS; (with_reducible (repeat (first | assumption | apply below_drew1 | apply below_alloc | apply pw_below_drewN)))))
         (first | (go_at_call 67; (with_reducible refine (hon _).mono ?_); rintro u_ w5 ⟨rfl, hb5⟩; have hB6 := below_step (w := wr) (by (with_reducible (repeat (first | exact hb0 | apply below_drew1 | apply below_alloc | apply pw_below_drewN)))) hb5; clear hb5))
        all_goals
         go_wp2
         exact ⟨⟨k + 1, by omega, by go_num, by rw [HE.out]; exact Kd.R_below hR2 hB6, hB2.trans (hB6.mono hB2.size)⟩, by simp [intOf]; omega⟩
       ·have hsi := HSI.out hts.symm
        have hrw := fun j => HRW.out j hts.symm
        clear hts
        have HSI2 := Aside0.mk hsi
        have HRW2 := Aside0.mk hrw
        clear hsi hrw
        go_wp2
        go_region_held3 (fun W' => W'.cell? ⟨ab, ao + a * 2, none⟩ = some (.float .f64 pa.f0) ∧ W'.cell? ⟨ab, ao + a * 2 + 1, none⟩ = some (.float .f64 pa.f1) ∧ W'.cell? ⟨ab, ao + b * 2, none⟩ = some (.float .f64 pb.f0) ∧ W'.cell? ⟨ab, ao + b * 2 + 1, none⟩ = some (.float .f64 pb.f1) ∧ W'.cell? ⟨ab, ao + x * 2, none⟩ = some (.float .f64 px.f0) ∧ W'.cell? ⟨ab, ao + x * 2 + 1, none⟩ = some (.float .f64 px.f1))
         (first | exact hS | (refine six_below2 ?_ hS; (with_reducible (repeat (first | assumption | apply below_drew1 | apply below_alloc | apply pw_below_drewN)))))
         (first | (go_at_call 67; (with_reducible refine (hon _).mono ?_); rintro u_ w5 ⟨rfl, hb5⟩; have hB6 := below_step (w := wr) (by (with_reducible (repeat (first | exact hb0 | apply below_drew1 | apply below_alloc | apply pw_below_drewN)))) hb5; clear hb5))
        all_goals
         replace hS := six_below2 hB6 hS
         replace hR2 := Kd.R_below hR2 hB6
         replace hB2 := hB2.trans (hB6.mono hB2.size)
         have HB6 := Aside0.mk hB6
         clear hB6 hb0 hBq hon gk
         obtain ⟨w6, hw6⟩ : ∃ w6 : World, w6 = w5 := ⟨w5, rfl⟩
         subst hw6
         obtain ⟨s, hs⟩ : ∃ s, s = Geo.spot (PT l) u a b k := ⟨_, rfl⟩
         have hsa : Geo.Ahead (PT l a) (PT l b) → s = r := fun h => by rw [hs, HR_.out]; unfold Geo.spot; rw [if_pos h]
         have hsd : ¬ Geo.Ahead (PT l a) (PT l b) → s = 1 := fun h => by rw [hs]; unfold Geo.spot; rw [if_neg h]
         have HSA := Aside0.mk (And.intro hsa hsd)
         have HS := Aside0.mk hs
         clear hs hsa hsd
         go_upto_block 4 with (fail)
         go_cut [14] (fun v14 wc => v14 = .int .i64 (s : Nat) ∧ Below w6.heap.size w6 wc)
         case first =>
          have hrow := (Kd.R_reads' hR2).2.2
          rw [zi_length, ← HR_.out] at hrow
          obtain ⟨rb, ro, rfl, hrr⟩ := row_at hrow (by omega)
          have HRR := Aside0.mk hrr
          clear hrr hrow hR2
          go_wp2
          go_loopw [14] (fun v14 wi => ∃ t : Nat, 1 ≤ t ∧ t ≤ r ∧ v14 = .int .i64 t ∧ Aside0 (Geo.Ahead (PT l a) (PT l b) → t = r) ∧ Below w6.heap.size w6 wi) (fun v14 _ => (intOf v14).toNat)
          case atStart => exact ⟨r, hr1, Nat.le_refl _, rfl, ⟨fun _ => rfl⟩, Below.refl _ _⟩
          case round =>
           obtain ⟨t, ht1, htr, rfl, HT, hB8⟩ := hrel
           by_cases ht2 : 1 < t
           ·obtain ⟨p, hp⟩ : ∃ p, p = t - 1 := ⟨_, rfl⟩
            have hpr : p < r := by omega
            have i5 : IntKind.i64.wrap ((t : Int) - 1) = (p : Int) := by rw [wrapI _ (by omega) (by omega)]; omega
            have g5 := bcell hB8 (HRR.out p hpr)
            rw [rdz (by rw [← HR_.out]; exact hpr)] at g5
            have hpp : p - 1 < (Geo.part (PT l) u a b k).length := by have := HR_.out; rw [List.length_cons] at this; omega
            have hq := HRW2.out (p - 1) hpp
            rw [show p - 1 + 1 = p by omega] at hq
            have hqm : (a :: Geo.part (PT l) u a b k).getD p 0 ∈ u := by
             rw [show p = (p - 1) + 1 by omega, List.getD_cons_succ, getD_at hpp]
             exact List.take_subset _ _ (Geo.part_mem (List.getElem_mem hpp)).1
            obtain ⟨q, hqe⟩ : ∃ q, q = (a :: Geo.part (PT l) u a b k).getD p 0 := ⟨_, rfl⟩
            rw [← hqe] at g5 hq hqm
            have hqu := HU.out.1 q hqm
            have hon2 := HON.out a q x hal hqu hxl
            obtain ⟨c0, c1⟩ := HPT.out q hqu
            replace c0 := bcell hB8 (bcell HB6.out c0)
            replace c1 := bcell hB8 (bcell HB6.out c1)
            rw [← HPA.out.1, ← HPA.out.2] at hon2 hq
            have hS8 := And.intro g5 (And.intro (bcell hB8 hS.1) (And.intro (bcell hB8 hS.2.1) (And.intro c0 (And.intro c1 (And.intro (bcell hB8 hS.2.2.2.2.1) (bcell hB8 hS.2.2.2.2.2))))))
            generalize at_ l q = pq at *
            generalize onS pa pq px = oq at *
            have HP := Aside0.mk hp
            have hb8 := Below.refl wr.heap.size wr
            have t1 : decide ((1 : Int) < (t : Int)) = true := by simp; omega
            have t2 : decide (1 < t) = true := by simp; omega
            have t3 : decide ((p : Int) < (r : Int)) = true := by simp; omega
            have t4 : decide (p < r) = true := by simp; omega
            have t5 : decide ((q : Int) < (l.length : Int)) = true := by simp; omega
            have t6 : decide (q < l.length) = true := by simp; omega
            clear g5 c0 c1 hp hpp hqe hqm hS
            by_cases hA : Geo.Ahead (PT l a) (PT l b)
            ·have ho : oq = false := by rw [hq]; simp [hA]
             have HTS2 := Aside0.mk ((HT.out hA).trans (HSA.out.1 hA).symm)
             clear hq
             subst ho
             go_wp2
             go_region_held3 (fun W' => W'.cell? ⟨rb, ro + p, none⟩ = some (.int .i64 q) ∧ W'.cell? ⟨ab, ao + a * 2, none⟩ = some (.float .f64 pa.f0) ∧ W'.cell? ⟨ab, ao + a * 2 + 1, none⟩ = some (.float .f64 pa.f1) ∧ W'.cell? ⟨ab, ao + q * 2, none⟩ = some (.float .f64 pq.f0) ∧ W'.cell? ⟨ab, ao + q * 2 + 1, none⟩ = some (.float .f64 pq.f1) ∧ W'.cell? ⟨ab, ao + x * 2, none⟩ = some (.float .f64 px.f0) ∧ W'.cell? ⟨ab, ao + x * 2 + 1, none⟩ = some (.float .f64 px.f1))
              (first | exact hS8 | (refine seven_below ?_ hS8; (with_reducible (repeat (first | assumption | apply below_drew1 | apply below_alloc | apply pw_below_drewN)))))
              (first | (go_at_call 67; (with_reducible refine (hon2 _).mono ?_); rintro u_ w7 ⟨rfl, hb5⟩; have hB7 := below_step (w := wr) (by (with_reducible (repeat (first | exact hb8 | apply below_drew1 | apply below_alloc | apply pw_below_drewN)))) hb5; clear hb5))
             all_goals
              go_wp2
              go_meet
              case rel => exact ⟨by rw [HTS2.out], hB8.trans (hB7.mono hB8.size)⟩
            ·have ho : oq = true := by rw [hq]; simp [hA]
             have HA := Aside0.mk hA
             clear hq hA
             subst ho
             go_wp2
             go_region_held3 (fun W' => W'.cell? ⟨rb, ro + p, none⟩ = some (.int .i64 q) ∧ W'.cell? ⟨ab, ao + a * 2, none⟩ = some (.float .f64 pa.f0) ∧ W'.cell? ⟨ab, ao + a * 2 + 1, none⟩ = some (.float .f64 pa.f1) ∧ W'.cell? ⟨ab, ao + q * 2, none⟩ = some (.float .f64 pq.f0) ∧ W'.cell? ⟨ab, ao + q * 2 + 1, none⟩ = some (.float .f64 pq.f1) ∧ W'.cell? ⟨ab, ao + x * 2, none⟩ = some (.float .f64 px.f0) ∧ W'.cell? ⟨ab, ao + x * 2 + 1, none⟩ = some (.float .f64 px.f1))
              (first | exact hS8 | (refine seven_below ?_ hS8; (with_reducible (repeat (first | assumption | apply below_drew1 | apply below_alloc | apply pw_below_drewN)))))
              (first | (go_at_call 67; (with_reducible refine (hon2 _).mono ?_); rintro u_ w7 ⟨rfl, hb5⟩; have hB7 := below_step (w := wr) (by (with_reducible (repeat (first | exact hb8 | apply below_drew1 | apply below_alloc | apply pw_below_drewN)))) hb5; clear hb5))
             all_goals
              go_wp2
              exact ⟨⟨p, by have := HP.out; omega, by omega, by go_num, ⟨fun h => absurd h HA.out⟩, hB8.trans (hB7.mono hB8.size)⟩, by have := HP.out; simp [intOf]; omega⟩
           ·have t1 : decide ((1 : Int) < (t : Int)) = false := by simp; omega
            have t2 : decide (1 < t) = false := by simp; omega
            have HTS2 : Aside0 (t = s) := ⟨by
             by_cases hA : Geo.Ahead (PT l a) (PT l b)
             ·exact (HT.out hA).trans (HSA.out.1 hA).symm
             ·rw [HSA.out.2 hA]; omega⟩
            clear ht2 ht1
            go_wp2
            go_quiet (fail)
            go_wp2
            go_meet
            case rel => exact ⟨by rw [HTS2.out], pw_below_drewN hB8 _⟩
         case rest =>
          obtain ⟨rfl, hB9⟩ := hcut
          have hR9 := Kd.R_below hR2 hB9
          have hBw := hB2.trans (hB9.mono hB2.size)
          have hsr : s ≤ r := by
           by_cases hA : Geo.Ahead (PT l a) (PT l b)
           ·exact Nat.le_of_eq (HSA.out.1 hA)
           ·rw [HSA.out.2 hA]; exact hr1
          have hln0 : (a :: Geo.part (PT l) u a b k).length ≤ 4000000 := by rw [← HR_.out]; omega
          have HLN := Aside0.mk hln0
          have hput : ∀ (W : World) (g : Nat) (tl : List Value), W.heap[g]? = some (.cells (splice (encs (Value.int .i64) (zi (a :: Geo.part (PT l) u a b k ++ [x])) ++ tl) (s + 1) (encs (Value.int .i64) (zi ((a :: Geo.part (PT l) u a b k).drop s)))).toArray 3 (0, 0)) →
           (W.setCell ⟨g, s, none⟩ (.int .i64 (x : Int))).heap[g]? = some (.cells (encs (Value.int .i64) (zi (a :: Geo.part (PT l) u a b (k + 1))) ++ tl).toArray 3 (0, 0)) := fun W g tl h => by
           have h2 := blk_set h s (.int .i64 (x : Int))
           have h3 := HSI2.out
           rw [← HS.out] at h3
           rw [ins_cells _ _ _ _ (by rw [← HR_.out]; exact hsr), h3] at h2
           exact h2
          have HPUT := Aside0.mk hput
          obtain ⟨s1, hs1e⟩ : ∃ s1, s1 = s + 1 := ⟨_, rfl⟩
          obtain ⟨r1, hr1e⟩ : ∃ r1, r1 = r + 1 := ⟨_, rfl⟩
          have i5 : IntKind.i64.wrap ((s : Int) + 1) = (s1 : Int) := by rw [wrapI _ (by omega) (by omega)]; omega
          have HS1 := Aside0.mk (And.intro hs1e hr1e)
          have HLP : Aside0 ((a :: Geo.part (PT l) u a b (k + 1)).length = r1) := ⟨by
           have h1 := congrArg List.length HSI2.out
           rw [← HS.out, List.length_append, List.length_append, List.length_take, List.length_drop, List.length_singleton, ← HR_.out] at h1
           omega⟩
          have hsr1 : s < r1 := by omega
          have hs1r : s1 ≤ r1 := by omega
          have t3 : decide ((s : Int) < (r1 : Int)) = true := by simp; omega
          have t4 : decide (s < r1) = true := by simp; omega
          clear hput hR2 hB2 hB9 hS hln0 hs1e hr1e
          go_wp2_with (refine wp_ck (.inl hR9) hBw hBw.size HLN.out rfl (.tmp 112) (.tmp 114) rfl rfl rfl rfl (by first | rfl | simp) ?_; intro v12 w10 hR10 hB10)
          obtain ⟨A12, c12, rfl⟩ := Kd.R_slice hR10
          have hln : (a :: Geo.part (PT l) u a b k ++ [x]).length = r1 := by rw [List.length_append, ← HR_.out, HS1.out.2]; rfl
          rw [zi_length, hln] at hR10 ⊢
          obtain ⟨g, tl, rfl, hg, hh, hcap, hcm⟩ := row_whole hR10 hln (by omega)
          have hsl1 := slice_lo (some ⟨g, 0, none⟩) r1 c12 s1 hs1r (by omega)
          have hsl2 := slice_lo (some ⟨g, 0, none⟩) r1 c12 s (by omega) (by omega)
          obtain ⟨Ad, hAd⟩ : ∃ Ad : Option Addr, Ad = (if c12 = s1 then some ⟨g, 0, none⟩ else (some (⟨g, 0, none⟩ : Addr)).map (·.add (s1 * 1))) := ⟨_, rfl⟩
          obtain ⟨As, hAs⟩ : ∃ As : Option Addr, As = (if c12 = s then some ⟨g, 0, none⟩ else (some (⟨g, 0, none⟩ : Addr)).map (·.add (s * 1))) := ⟨_, rfl⟩
          rw [← hAd] at hsl1
          rw [← hAs] at hsl2
          obtain ⟨dl, hdl⟩ : ∃ dl, dl = r1 - s1 := ⟨_, rfl⟩
          obtain ⟨dc, hdc⟩ : ∃ dc, dc = c12 - s1 := ⟨_, rfl⟩
          obtain ⟨sl, hsl⟩ : ∃ sl, sl = r1 - s := ⟨_, rfl⟩
          obtain ⟨sc, hsc⟩ : ∃ sc, sc = c12 - s := ⟨_, rfl⟩
          rw [← hdl, ← hdc] at hsl1
          rw [← hsl, ← hsc] at hsl2
          rw [HS1.out.1] at hAd
          have hdl2 : dl = r + 1 - (s + 1) := by rw [hdl, HS1.out.1, HS1.out.2]
          have hsl3 : sl = r + 1 - s := by rw [hsl, HS1.out.2]
          have HDS := Aside0.mk (And.intro hAd (And.intro hdl2 (And.intro hAs hsl3)))
          have HCAP : Aside0 (r + 1 + tl.length = c12) := ⟨by have := HS1.out.2; omega⟩
          have HC12 := Aside0.mk (And.intro hcap hcm)
          clear hAd hdl hdc hsl hsc hAs hdl2 hsl3 hR10 hln hR9 hBw hcap hcm
          go_region_held3 (fun _ => True)
           (trivial)
           ((refine step_ins (by rfl) (.tmp 119) (.tmp 122) (by rfl) (xs := a :: Geo.part (PT l) u a b k) (x := x) (j := s) (n := r) (c := c12) (g := g) (base := wa.heap.size) (tl := tl) (w0 := wa) (by rfl) (by rfl) (by exact hh) HR_.out.symm hsr HCAP.out HDS.out.1 HDS.out.2.1 HDS.out.2.2.1 HDS.out.2.2.2 (by first | exact hB10 | exact below_drew1 hB10) hg ?_; intro w11 hg11 hb11))
          all_goals
           have hc11 : ∃ v, w11.cell? ⟨g, s, none⟩ = some v := by
            rw [blk_cell hg11.out]
            refine ⟨_, Array.getElem?_eq_getElem ?_⟩
            rw [List.size_toArray, length_splice _ _ _ (by rw [encs_length, zi_length, List.length_drop, ← HR_.out, List.length_append, encs_length, zi_length, List.length_append, ← HR_.out]; simp; omega), List.length_append, encs_length, zi_length, List.length_append, ← HR_.out]
            simp; omega
           obtain ⟨v11, hv11⟩ := hc11
           have hf11 := blk_frozen hg11.out s
           go_wp2
           exact ⟨⟨k + 1, by omega, by go_num, row_of_whole (HPUT.out w11 g tl hg11.out) hg HLP.out HC12.out.1 HC12.out.2, hb11.setCell (by show wa.heap.size ≤ g; exact hg) _⟩, by simp [intOf]; omega⟩
    ·obtain rfl : m = k := by omega
     have d3 : decide ((m : Int) < (m : Int)) = false := by simp
     have d4 : decide (m < m) = false := by simp
     have hR7 := Kd.R_below hR hB2
     have hC11 := (Kd.R_reads' hR2).2.2
     rw [zi_length, ← HR_.out] at hC11
     have HF : Aside0 (Geo.outs (PT l) u H (i + 1) = Geo.outs (PT l) u H i ++ (a :: Geo.part (PT l) u a b m)) := ⟨by rw [HOS.out, HM.out.1, Geo.part_all]⟩
     clear hR hR2
     go_wp2_with (first
      | (refine Kd.R_append_rows (Kd.int .i64) (w0 := w3) w3.heap.size (by rfl) (.tmp 128) (.tmp 129) 26 3 (.int .i64 0) 8 rfl Tryz.underlying26 infoI rfl (by decide) (by omega) (.slice A7 q7 c7) (zi (Geo.outs (PT l) u H i)) (zi (a :: Geo.part (PT l) u a b m)) _ _ _ (fun _ => True) (fun _ => False) rfl rfl ?aO ?aR (fun _ _ h => h) (fun _ h => h.elim) (fun _ _ => trivial) ?aB ?aS ?aL ?_
         (case aO => exact hR7)
         (case aR => exact hC11)
         (case aB => exact hBq)
         (case aS => exact hBq.size)
         (case aL => rw [zi_length, ← HQ7.out]; omega)
         intro v1 w4 hR8 hB8 hg1 hat1; clear hg1 hat1; rw [zi_app] at hR8))
     exact ⟨⟨i + 1, by omega, by go_num, by rw [HF.out]; exact hR8, hB8⟩, by simp [intOf]; omega⟩
  ·obtain rfl : n = i := by omega
   have e1 : decide ((n : Int) < (n : Int)) = false := by simp
   have e2 : decide (n < n) = false := by simp
   go_wp2
   go_ret2
   exact ⟨_, rfl, Kd.R_lower hR hB3.size, hB3.trans (hB.mono hB3.size)⟩
theorem rim20_calls (A : Option Addr) (c : Nat) (l : List S) (w : World) (hl : Kd.C k32 w A l.length l) (hc : l.length ≤ c) (hw : Wd l) :
 Calls Tryz.prog 36 #[.slice A l.length c] w (AroPost l true w) := by
 by_cases h0 : (allF l).2 = 0
 ·by_cases h2 : (unlAll l).length < 3 ∨ flatAll l = true
  ·exact rim20_few A c l w hl hc hw h0 h2
  ·exact rim20_main A c l w hl hc hw h0 (by omega) (by cases hf : flatAll l with | false => rfl | true => exact absurd (.inr hf) h2)
 ·exact rim20_bad A c l w hl hc hw h0
end Go.Proofs.YtioahkblhekgpaaGreatDoor.Nw
namespace Go.Proofs.YtioahkblhekgpaaGreatDoor.Nw
open Go.RowKit Go.Proofs.YtioahkblhekgpaaGreatDoor.FltP Go.Proofs.YtioahkblhekgpaaGreatDoor.R Go.Proofs.YtioahkblhekgpaaGreatDoor.E Go.Proofs.YtioahkblhekgpaaGreatDoor.O Go.Proofs.YtioahkblhekgpaaGreatDoorW.PrintWords Go.Proofs.YtioahkblhekgpaaGreatDoorW.PrintLast Go.Proofs.YtioahkblhekgpaaGreatDoorW.PrintMore
open Go.Proofs.YtioahkblhekgpaaGreatDoor.NumP Go.Proofs.YtioahkblhekgpaaGreatDoor.Adm
attribute [local go_sem high] eqPt
set_option maxRecDepth 100000 in
set_option maxHeartbeats 4000000 in
theorem count20_call (A : Option Addr) (c : Nat) (l : List S) (w : World) (hl : Kd.C k32 w A l.length l) (hc : l.length ≤ c) (hw : Wd l) :
 Calls Tryz.prog 37 #[.slice A l.length c] w fun e w' => e = .returned (.tuple #[.int .i64 (countAll l).1, .int .i64 (countAll l).2]) ∧ Below w.heap.size w w' := by
 have hr := rim20_calls A c l
 have HC := Aside0.mk hc
 by_cases h0 : (allF l).2 = 0
 ·have hun := fun W (hl : Kd.C k32 W A l.length l) => unlike07_calls A c l W hl hc h0
  have hf := fun W (hl : Kd.C k32 W A l.length l) => flat07_calls A c l W hl hc h0
  have hul := Pure.unl_len h0
  have h20 := ((allF_ok l).mp h0).1
  have hcn : countAll l = if flatAll l = true then (0, 0) else (2 * ((unlAll l).length : Int) - 2 - ((hullAll l true).length : Int), 0) := by unfold countAll; rw [if_neg (by omega)]
  have hln := hull_len l true h0
  clear hc
  generalize hfe : flatAll l = f at *
  have HN := Aside0.mk hcn
  clear hcn
  cases f
  all_goals
   go_enter Tryz.func37, Tryz.ntmps37
   go_wp2_with (first
    | (go_at_call 36; (with_reducible refine (hr _ hl HC.out hw).mono ?_); rintro u w1 ⟨v1, rfl, hR1, hb1⟩; obtain ⟨A1, c1, rfl, hle1, hC1⟩ := Kd.R_reads hR1; rw [h0]; rw [zi_length] at hC1 hle1 ⊢; clear hr hR1)
    | (go_at_call 22; (with_reducible refine (hf _ (Kd.C_below hl hb1)).mono ?_); rintro u w2 ⟨rfl, hb2⟩; have hB2 := hb1.trans (hb2.mono hb1.size); clear hf hb2)
    | (go_at_call 21; (with_reducible refine (hun _ (Kd.C_below hl hB2)).mono ?_); rintro u w3 ⟨v3, rfl, hR3, hb3⟩; obtain ⟨A3, c3, rfl, hle3, hC3⟩ := Kd.R_reads hR3; rw [zi_length] at hC3 hle3 ⊢; have hB3 := hB2.trans (hb3.mono hB2.size); clear hun hR3 hb3))
   exact bodyPost_ret (v := .tuple #[.int .i64 (countAll l).1, .int .i64 (countAll l).2]) (by simp [results, Tryz.results37, go_sem, HN.out]) rfl ⟨rfl, by assumption⟩
 ·have hcn : countAll l = (0, (allF l).2) := by unfold countAll; rw [if_pos h0]
  have e1 : ((allF l).2 != 0) = true := bne_iff_ne.mpr h0
  have e2 : ((allF l).2 == 0) = false := beq_eq_false_iff_ne.mpr h0
  have HN := Aside0.mk hcn
  clear h0 hcn hc
  go_enter Tryz.func37, Tryz.ntmps37
  go_wp2_with (first
   | (go_at_call 36; (with_reducible refine (hr _ hl HC.out hw).mono ?_); rintro u w1 ⟨v1, rfl, hR1, hb1⟩; obtain ⟨A1, c1, rfl, hle1, hC1⟩ := Kd.R_reads hR1))
  exact bodyPost_ret (v := .tuple #[.int .i64 0, .int .i64 (allF l).2]) (by simp [results, Tryz.results37, go_sem]) rfl ⟨by rw [HN.out], hb1⟩
def Bw (lo hi : Nat) (w : World) (A : Option Addr) (n c : Nat) (xs : List Nat) : Prop := Kd.R (Kd.int .i64) 3 w lo (fun k => lo ≤ k ∧ k < hi) (.slice A n c) (zi xs)
theorem Bw.below {lo hi n c : Nat} {w w' : World} {A : Option Addr} {xs : List Nat} (h : Bw lo hi w A n c xs) (hb : Below w.heap.size w w') : Bw lo hi w' A n c xs := Kd.R_below h hb
theorem Bw.far {lo hi n c : Nat} {w : World} {A : Option Addr} {xs : List Nat} (h : Bw lo hi w A n c xs) {p : Addr} (hp : p.block < lo ∨ hi ≤ p.block) (v : Value) : Bw lo hi (w.setCell p v) A n c xs := Kd.R_far h (fun k hk => by omega) v
theorem Bw.reads {lo hi n c : Nat} {w : World} {A : Option Addr} {xs : List Nat} (h : Bw lo hi w A n c xs) (hn : xs.length = n) : Kd.C (Kd.int .i64) w A n (zi xs) ∧ n ≤ c := by
 have := Kd.R_reads' h
 rw [zi_length, hn] at this
 exact ⟨this.2.2, this.2.1⟩
theorem aro_form {l : List S} {ed : Bool} {w w' : World} {e : Ending} {n : Nat} (h : AroPost l ed w e w') (hn : (hullAll l ed).length = n) :
 ∃ A c g, e = .returned (.tuple #[.slice A n c, .int .i64 (allF l).2]) ∧ Bw w.heap.size w'.heap.size w' A n c (hullAll l ed) ∧ Gd w.heap.size w'.heap.size w' A g n ∧ Below w.heap.size w w' := by
 obtain ⟨v, rfl, hR, hb⟩ := h
 obtain ⟨A, c, g, he, h1, h2, h3⟩ := gives_form (e := .returned v) ⟨v, rfl, hR, hb⟩ hn
 injection he with he
 subst he
 exact ⟨A, c, g, rfl, Kd.R_mono (Kd.R_bound hR) (fun k hk => ⟨hk.2.1, hk.2.2.1⟩), h2, h3⟩
theorem aro_give {f : Nat} {args : Array Value} {w : World} {l : List S} {ed : Bool} {n : Nat} (h : Calls Tryz.prog f args w (AroPost l ed w)) (hn : (hullAll l ed).length = n) :
 Calls Tryz.prog f args w fun e w' => ∃ A c g, e = .returned (.tuple #[.slice A n c, .int .i64 (allF l).2]) ∧ Bw w.heap.size w'.heap.size w' A n c (hullAll l ed) ∧ Gd w.heap.size w'.heap.size w' A g n ∧ Below w.heap.size w w' :=
 h.mono fun _ _ k => aro_form k hn
theorem hull_few (l : List S) (ed : Bool) : (hullAll l ed).length ≤ 2 * l.length := by
 by_cases h0 : (allF l).2 = 0
 ·have h1 := hull_len l ed h0
  have h2 := Pure.unl_len h0
  omega
 ·unfold hullAll
  rw [if_pos h0]
  simp
theorem numbers_same {A B : Option Addr} {n c d : Nat} {xs : List Nat} {w : World} (ha : Kd.C (Kd.int .i64) w A n (zi xs)) (hb : Kd.C (Kd.int .i64) w B n (zi xs)) (hn : xs.length = n) (hc : n ≤ c) (hd : n ≤ d) :
 Calls Tryz.prog 38 #[.slice A n c, .slice B n d] w fun e w' => e = .returned (.bool true) ∧ Below w.heap.size w w' := by
 have h := numbers_call A B n n c d (zi xs) (zi xs) w ha hb (by rw [zi_length, hn]) (by rw [zi_length, hn]) hc hd
 rw [decide_eq_true rfl] at h
 exact h
set_option maxRecDepth 100000 in
set_option maxHeartbeats 8000000 in
theorem hullCorners_law (A : Option Addr) (c : Nat) (l : List S) (w : World) (hl : Kd.C k32 w A l.length l) (hc : l.length ≤ c) (hw : Wd l) :
 Calls Tryz.prog 8 #[.slice A l.length c] w fun e w' => e = .returned (.bool true) ∧ Below w.heap.size w w' := by
 have hu32 := Tryz.underlying32
 have haw := fun W => awake_call W
 by_cases h80 : 80 < l.length
 ·have d1 : decide ((80 : Int) < (l.length : Int)) = true := by simp; omega
  have d2 : decide (80 < l.length) = true := by simp; omega
  go_enter Tryz.func8, Tryz.ntmps8
  go_wp2_with (go_at_call 31; (with_reducible refine (haw _).mono ?_); rintro u w1 ⟨rfl, hb⟩)
  go_ret
  exact ⟨rfl, hb⟩
 ·have d1 : decide ((80 : Int) < (l.length : Int)) = false := by simp; omega
  have d2 : decide (80 < l.length) = false := by simp; omega
  have hfw0 := hull_few l false
  have hfw1 := hull_few l true
  obtain ⟨nh, hnh⟩ : ∃ n, (hullAll l false).length = n := ⟨_, rfl⟩
  obtain ⟨nr, hnr⟩ : ∃ n, (hullAll l true).length = n := ⟨_, rfl⟩
  have hpa := fun A c W (h : Kd.C k32 W A l.length l) (hc : l.length ≤ c) => aro_give (hull_calls A c l W h hc hw) hnh
  have hpb := fun A c W (h : Kd.C k32 W A l.length l) (hc : l.length ≤ c) => aro_give (rim_calls A c l W h hc hw) hnr
  have hpn := fun A c W (h : Kd.C k32 W A l.length l) (hc : l.length ≤ c) => count_call A c l W h hc hw
  have hpx := fun A c W (h : Kd.C k32 W A l.length l) (hc : l.length ≤ c) => aro_give (hull20_calls A c l W h hc hw) hnh
  have hpy := fun A c W (h : Kd.C k32 W A l.length l) (hc : l.length ≤ c) => aro_give (rim20_calls A c l W h hc hw) hnr
  have hpm := fun A c W (h : Kd.C k32 W A l.length l) (hc : l.length ≤ c) => count20_call A c l W h hc hw
  have HNH := Aside0.mk (And.intro hnh hnr)
  rw [hnh] at hfw0
  rw [hnr] at hfw1
  clear hw hnh hnr
  generalize (countAll l).1 = cn at *
  generalize (countAll l).2 = ce at *
  generalize (allF l).2 = f at *
  generalize hullAll l false = H at *
  generalize hullAll l true = Rm at *
  obtain ⟨m, hm⟩ : ∃ m, m = l.length := ⟨_, rfl⟩
  have HC := Aside0.mk hc
  clear hc
  go_enter Tryz.func8, Tryz.ntmps8
  have HM := Aside0.mk hm
  clear hm
  go_wp2_with (first
   | (refine Kd.R_append_rows k32 (w0 := w) w.heap.size (by rfl) (.tmp 27) (.tmp 28) 22 32 (.agg #[(.float .f64 0), (.float .f64 0)]) 16 rfl Tryz.underlying22 E.info32 rfl (by decide) (by omega) (.slice (some ⟨w.heap.size, 0, none⟩) 0 0) [] l _ _ _ (fun _ => True) (fun _ => False) rfl rfl ?aO ?aR (fun _ _ h => h) (fun _ h => h.elim) (fun _ _ => trivial) ?aB ?aS ?aL ?_
      (case aO => exact nil_own (Nat.le_refl _))
      (case aR => exact Kd.C_below hl (below_alloc (Below.refl _ _) _))
      (case aB => exact below_alloc (Below.refl _ _) _)
      (case aS => exact (below_alloc (Below.refl w.heap.size w) _).size)
      (case aL => simp only [List.length_nil]; omega)
      intro v1 w1 hR1 hB1 hg1 hat1; clear hg1 hat1; rw [List.nil_append] at hR1; obtain ⟨A1, c1, rfl⟩ := Kd.R_slice hR1; have hC1 := Kd.R_reads' hR1; clear hR1; have hb0 := Below.refl w1.heap.size w1)
   | (go_at_call 32; (with_reducible refine (hpa _ _ _ hC1.2.2 hC1.2.1).mono ?_); rintro u w2 ⟨A2, c2, g2, rfl, hK2, hG2, hb2⟩)
   | (go_at_call 33; (with_reducible refine (hpb _ _ _ (Kd.C_below hC1.2.2 hb2) hC1.2.1).mono ?_); rintro u w3 ⟨A3, c3, g3, rfl, hK3, hG3, hb3⟩; have hB3 := hb2.trans (hb3.mono hb2.size); replace hK2 := hK2.below hb3; replace hG2 := hG2.below hb3)
   | (go_at_call 34; (with_reducible refine (hpn _ _ _ (Kd.C_below hC1.2.2 hB3) hC1.2.1).mono ?_); rintro u w4 ⟨rfl, hb4⟩; have hB4 := hB3.trans (hb4.mono hB3.size); replace hK2 := hK2.below hb4; replace hG2 := hG2.below hb4; replace hK3 := hK3.below hb4; replace hG3 := hG3.below hb4)
   | (go_at_call 35; (with_reducible refine (hpx _ _ _ (Kd.C_below hl (hB1.trans (hB4.mono hB1.size))) HC.out).mono ?_); rintro u w5 ⟨A5, c5, g5, rfl, hK5, hG5, hb5⟩; have hB5 := hB4.trans (hb5.mono hB4.size); replace hK2 := hK2.below hb5; replace hG2 := hG2.below hb5; replace hK3 := hK3.below hb5; replace hG3 := hG3.below hb5; clear hG5)
   | (go_at_call 36; (with_reducible refine (hpy _ _ _ (Kd.C_below hl (hB1.trans (hB5.mono hB1.size))) HC.out).mono ?_); rintro u w6 ⟨A6, c6, g6, rfl, hK6, hG6, hb6⟩; have hB6 := hB5.trans (hb6.mono hB5.size); replace hK2 := hK2.below hb6; replace hG2 := hG2.below hb6; replace hK3 := hK3.below hb6; replace hG3 := hG3.below hb6; replace hK5 := hK5.below hb6; clear hG6)
   | (go_at_call 37; (with_reducible refine (hpm _ _ _ (Kd.C_below hl (hB1.trans (hB6.mono hB1.size))) HC.out).mono ?_); rintro u w7 ⟨rfl, hb7⟩; have hB7 := hB6.trans (hb7.mono hB6.size); replace hK2 := hK2.below hb7; replace hG2 := hG2.below hb7; replace hK3 := hK3.below hb7; replace hG3 := hG3.below hb7; replace hK5 := hK5.below hb7; replace hK6 := hK6.below hb7)
   | (go_at_call 38; (with_reducible refine (numbers_same (hK2.reads HNH.out.1).1 (hK5.reads HNH.out.1).1 HNH.out.1 (hK2.reads HNH.out.1).2 (hK5.reads HNH.out.1).2).mono ?_); rintro u w8 ⟨rfl, hb8⟩; have hB8 := hB7.trans (hb8.mono hB7.size); replace hG2 := hG2.below hb8; replace hK3 := hK3.below hb8; replace hG3 := hG3.below hb8; replace hK5 := hK5.below hb8; replace hK6 := hK6.below hb8; clear hK2)
   | (go_at_call 38; (with_reducible refine (numbers_same (hK3.reads HNH.out.2).1 (hK6.reads HNH.out.2).1 HNH.out.2 (hK3.reads HNH.out.2).2 (hK6.reads HNH.out.2).2).mono ?_); rintro u w9 ⟨rfl, hb9⟩; have hB9 := hB8.trans (hb9.mono hB8.size); replace hG2 := hG2.below hb9; replace hG3 := hG3.below hb9; replace hK5 := hK5.below hb9; replace hK6 := hK6.below hb9; clear hK3))
  have hE : Aside0 (w1.heap.size ≤ w2.heap.size ∧ w2.heap.size ≤ w3.heap.size ∧ w3.heap.size ≤ w4.heap.size ∧ w4.heap.size ≤ w5.heap.size ∧ w5.heap.size ≤ w6.heap.size) := ⟨⟨hb2.size, hb3.size, hb4.size, hb5.size, hb6.size⟩⟩
  clear hb0 hb2 hb3 hb4 hb5 hb6 hb7 hb8 hb9 hB3 hB4 hB5 hB6 hB7 hB8 hpn hpm hpx hpy
  obtain ⟨n1, en1⟩ : ∃ n, n = w1.heap.size := ⟨_, rfl⟩
  obtain ⟨n2, en2⟩ : ∃ n, n = w2.heap.size := ⟨_, rfl⟩
  obtain ⟨n3, en3⟩ : ∃ n, n = w3.heap.size := ⟨_, rfl⟩
  obtain ⟨n4, en4⟩ : ∃ n, n = w4.heap.size := ⟨_, rfl⟩
  obtain ⟨n5, en5⟩ : ∃ n, n = w5.heap.size := ⟨_, rfl⟩
  obtain ⟨n6, en6⟩ : ∃ n, n = w6.heap.size := ⟨_, rfl⟩
  rw [← en1, ← en2] at hG2
  rw [← en2, ← en3] at hG3
  rw [← en4, ← en5] at hK5
  rw [← en5, ← en6] at hK6
  rw [← en1, ← en2, ← en3, ← en4, ← en5, ← en6] at hE
  have EN1 := Aside0.mk en1
  clear en1 en2 en3 en4 en5 en6
  go_loopw [16] (fun v16 wq => ∃ i : Nat, i ≤ nh ∧ v16 = .int .i64 i ∧ Below w1.heap.size w1 wq ∧ Gd n1 n2 wq A2 g2 nh ∧ Gd n2 n3 wq A3 g3 nr ∧ Bw n4 n5 wq A5 nh c5 H ∧ Bw n5 n6 wq A6 nr c6 Rm) (fun v16 _ => nh - (intOf v16).toNat)
  case atStart => exact ⟨0, Nat.zero_le _, rfl, hB9, hG2, hG3, hK5, hK6⟩
  case round =>
   clear hB9 hG2 hG3 hK5 hK6
   obtain ⟨i, hi, rfl, hB9, hG2, hG3, hK5, hK6⟩ := hrel
   by_cases hin : i < nh
   ·have d3 : decide ((i : Int) < (nh : Int)) = true := by simp; omega
    have d4 : decide (i < nh) = true := by simp; omega
    have i2 : IntKind.i64.wrap ((i : Int) + 1) = (i : Int) + 1 := wrapI _ (by omega) (by omega)
    obtain ⟨rfl, lo2, hi2, R2⟩ := hG2 (by omega)
    obtain ⟨⟨x2, x2e⟩, f2⟩ := R2.cell hin
    have HZ := Aside0.mk (And.intro lo2 hi2)
    clear R2 lo2 hi2
    go_wp2
    have z := HZ.out
    have zz := hE.out
    exact ⟨⟨i + 1, by omega, by go_num, hB9.setCell (by show w1.heap.size ≤ g2; have := EN1.out; omega) _, hG2.put i _, hG3.far (Or.inl (by show g2 < n2; omega)) _, hK5.far (Or.inl (by show g2 < n4; omega)) _, hK6.far (Or.inl (by show g2 < n5; omega)) _⟩, by simp [intOf]; omega⟩
   ·obtain rfl : nh = i := by omega
    have d3 : decide ((nh : Int) < (nh : Int)) = false := by simp
    have d4 : decide (nh < nh) = false := by simp
    clear hG2
    go_wp2
    go_loopw [17] (fun v17 wq => ∃ i : Nat, i ≤ nr ∧ v17 = .int .i64 i ∧ Below w1.heap.size w1 wq ∧ Gd n2 n3 wq A3 g3 nr ∧ Bw n4 n5 wq A5 nh c5 H ∧ Bw n5 n6 wq A6 nr c6 Rm) (fun v17 _ => nr - (intOf v17).toNat)
    case atStart => exact ⟨0, Nat.zero_le _, rfl, hB9, hG3, hK5, hK6⟩
    case round =>
     clear hB9 hG3 hK5 hK6
     obtain ⟨i, hi, rfl, hB9, hG3, hK5, hK6⟩ := hrel
     by_cases hin : i < nr
     ·have d5 : decide ((i : Int) < (nr : Int)) = true := by simp; omega
      have d6 : decide (i < nr) = true := by simp; omega
      have i2 : IntKind.i64.wrap ((i : Int) + 1) = (i : Int) + 1 := wrapI _ (by omega) (by omega)
      obtain ⟨rfl, lo2, hi2, R2⟩ := hG3 (by omega)
      obtain ⟨⟨x2, x2e⟩, f2⟩ := R2.cell hin
      have HZ := Aside0.mk (And.intro lo2 hi2)
      clear R2 lo2 hi2
      go_wp2
      have z := HZ.out
      have zz := hE.out
      exact ⟨⟨i + 1, by omega, by go_num, hB9.setCell (by show w1.heap.size ≤ g3; have := EN1.out; omega) _, hG3.put i _, hK5.far (Or.inl (by show g3 < n4; omega)) _, hK6.far (Or.inl (by show g3 < n5; omega)) _⟩, by simp [intOf]; omega⟩
     ·obtain rfl : nr = i := by omega
      have d5 : decide ((nr : Int) < (nr : Int)) = false := by simp
      have d6 : decide (nr < nr) = false := by simp
      clear hG3
      go_wp2
      go_loopw [18] (fun v18 wq => ∃ i : Nat, i ≤ l.length ∧ v18 = .int .i64 i ∧ Below w1.heap.size w1 wq ∧ Bw n4 n5 wq A5 nh c5 H ∧ Bw n5 n6 wq A6 nr c6 Rm) (fun v18 _ => l.length - (intOf v18).toNat)
      case atStart => exact ⟨0, Nat.zero_le _, rfl, hB9, hK5, hK6⟩
      case round =>
       clear hB9 hK5 hK6
       obtain ⟨i, hi, rfl, hB9, hK5, hK6⟩ := hrel
       by_cases hin : i < l.length
       ·have d7 : decide ((i : Int) < (l.length : Int)) = true := by simp; omega
        have d8 : decide (i < l.length) = true := by simp; omega
        have i2 : IntKind.i64.wrap ((i : Int) + 1) = (i : Int) + 1 := wrapI _ (by omega) (by omega)
        obtain ⟨ib, io, rfl, hz1⟩ := pts_at (Kd.C_below hC1.2.2 hB9) (by omega)
        obtain ⟨ab, ao, rfl, hz2⟩ := pts_at (Kd.C_below hl (hB1.trans (hB9.mono hB1.size))) (by omega)
        obtain ⟨a0, a1⟩ := hz1 i hin
        obtain ⟨b0, b1⟩ := hz2 i hin
        generalize rd_T32 l (i : Int) = x at *
        have HC1 := Aside0.mk hC1
        clear hz1 hz2 hC1 hl haw hpa hpb
        have key : ∀ q0 q1, (FloatKind.f64.format.order x.f0 x.f0 == some .eq) = q0 → (FloatKind.f64.format.order x.f1 x.f1 == some .eq) = q1 → True := fun _ _ _ _ => trivial
        clear key
        cases hq0 : (FloatKind.f64.format.order x.f0 x.f0 == some .eq) <;> cases hq1 : (FloatKind.f64.format.order x.f1 x.f1 == some .eq)
        all_goals
         go_upto_region 23 with (fail)
         go_quiet (fail)
         go_wp2
         exact ⟨⟨i + 1, by omega, by go_num, pw_below_drewN hB9 nq, hK5.below (pw_below_drewN (Below.refl _ _) nq), hK6.below (pw_below_drewN (Below.refl _ _) nq)⟩, by simp [intOf]; omega⟩
       ·obtain rfl : l.length = i := by omega
        have d7 : decide ((l.length : Int) < (l.length : Int)) = false := by simp
        have d8 : decide (l.length < l.length) = false := by simp
        go_wp2_with (first
         | (go_at_call 32; (with_reducible refine (hpa _ _ _ (Kd.C_below hC1.2.2 hB9) hC1.2.1).mono ?_); rintro u w12 ⟨A12, c12, g12, rfl, hK12, hG12, hb12⟩; have hB12 := hB9.trans (hb12.mono hB9.size); replace hK5 := hK5.below hb12; replace hK6 := hK6.below hb12; clear hG12)
         | (go_at_call 33; (with_reducible refine (hpb _ _ _ (Kd.C_below hC1.2.2 hB12) hC1.2.1).mono ?_); rintro u w13 ⟨A13, c13, g13, rfl, hK13, hG13, hb13⟩; have hB13 := hB12.trans (hb13.mono hB12.size); replace hK5 := hK5.below hb13; replace hK6 := hK6.below hb13; replace hK12 := hK12.below hb13; clear hG13)
         | (go_at_call 38; (with_reducible refine (numbers_same (hK12.reads HNH.out.1).1 (hK5.reads HNH.out.1).1 HNH.out.1 (hK12.reads HNH.out.1).2 (hK5.reads HNH.out.1).2).mono ?_); rintro u w14 ⟨rfl, hb14⟩; have hB14 := hB13.trans (hb14.mono hB13.size); replace hK6 := hK6.below hb14; replace hK13 := hK13.below hb14; clear hK12 hK5)
         | (go_at_call 38; (with_reducible refine (numbers_same (hK13.reads HNH.out.2).1 (hK6.reads HNH.out.2).1 HNH.out.2 (hK13.reads HNH.out.2).2 (hK6.reads HNH.out.2).2).mono ?_); rintro u w15 ⟨rfl, hb15⟩; have hB15 := hB14.trans (hb15.mono hB14.size); clear hK13)
         | (go_at_call 31; (with_reducible refine (haw _).mono ?_); rintro u w16 ⟨rfl, hb16⟩; have hB16 := hB15.trans (hb16.mono hB15.size)))
        go_ret
        exact ⟨rfl, hB1.trans (hB16.mono hB1.size)⟩
end Go.Proofs.YtioahkblhekgpaaGreatDoor.Nw
