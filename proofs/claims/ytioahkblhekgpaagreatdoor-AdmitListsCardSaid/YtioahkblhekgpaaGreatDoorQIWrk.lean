/- What the proof needs of Twi, Wrk: only what is used is left (wip/tools/prune.py). Conditions stand in each sentence. -/
import Derived.Maps.OwnOps
import Derived.Test.YtioahkblhekgpaaGreatDoorQIUnw
import Derived.Test.YtioahkblhekgpaaGreatDoorQIFla
set_option linter.unusedVariables false
set_option linter.unusedSimpArgs false
namespace Go.Proofs.YtioahkblhekgpaaGreatDoor.E
end Go.Proofs.YtioahkblhekgpaaGreatDoor.E
namespace Go.Proofs.YtioahkblhekgpaaGreatDoor.FltP
end Go.Proofs.YtioahkblhekgpaaGreatDoor.FltP
namespace Go.Proofs.YtioahkblhekgpaaGreatDoor.O
end Go.Proofs.YtioahkblhekgpaaGreatDoor.O
namespace Go.Proofs.YtioahkblhekgpaaGreatDoor.R
end Go.Proofs.YtioahkblhekgpaaGreatDoor.R
namespace Go.Proofs.YtioahkblhekgpaaGreatDoorW.PrintLast
end Go.Proofs.YtioahkblhekgpaaGreatDoorW.PrintLast
namespace Go.Proofs.YtioahkblhekgpaaGreatDoorW.PrintMore
end Go.Proofs.YtioahkblhekgpaaGreatDoorW.PrintMore
namespace Go.Proofs.YtioahkblhekgpaaGreatDoorW.PrintWords
end Go.Proofs.YtioahkblhekgpaaGreatDoorW.PrintWords
namespace Go.Proofs.YtioahkblhekgpaaGreatDoor.Adm
open Go.RowKit Go.Proofs.YtioahkblhekgpaaGreatDoor.FltP Go.Proofs.YtioahkblhekgpaaGreatDoor.R Go.Proofs.YtioahkblhekgpaaGreatDoor.E Go.Proofs.YtioahkblhekgpaaGreatDoor.O Go.Proofs.YtioahkblhekgpaaGreatDoorW.PrintWords Go.Proofs.YtioahkblhekgpaaGreatDoorW.PrintLast Go.Proofs.YtioahkblhekgpaaGreatDoorW.PrintMore
def keyV (x : S) : Value := .agg #[.float .f64 x.f0, .float .f64 x.f1]
def sameW (x y : S) : Bool := (FloatKind.f64.format.order x.f0 y.f0 == some .eq) && (FloatKind.f64.format.order x.f1 y.f1 == some .eq)
theorem run_same (x y : S) (W : World) : (Op.equal 32 (keyV x) (keyV y)).run Tryz.prog W = .ok (sameW x y) W := eqPt 9998 W x.f0 y.f0 x.f1 y.f1
theorem check_flt (e : Bool) (n b : Nat) (W : World) : (Instr.checkKey e (n + 1) 30 (.float .f64 b)).run Tryz.prog W = .ok () W := by
  unfold Instr.checkKey
  simp only [Sem.run_bind, run_underlying Tryz.underlying30, Result.andThen_ok]
  rfl
theorem check_pt (e : Bool) (n : Nat) (x : S) (W : World) : (Instr.checkKey e (n + 2) 32 (keyV x)).run Tryz.prog W = .ok () W := by
  unfold keyV
  unfold Instr.checkKey
  simp only [Sem.run_bind, run_underlying Tryz.underlying32, Result.andThen_ok]
  have p0 : (part 30 #[Value.float .f64 x.f0, .float .f64 x.f1] 0).run Tryz.prog W = .ok (.float .f64 x.f0) W := by first | (go_simp; done) | (go_simp; rfl)
  have p1 : (part 30 #[Value.float .f64 x.f0, .float .f64 x.f1] 1).run Tryz.prog W = .ok (.float .f64 x.f1) W := by first | (go_simp; done) | (go_simp; rfl)
  have c0 := check_flt e n x.f0 W
  have c1 := check_flt e n x.f1 W
  simp [p0, p1, c0, c1, Sem.run_bind, Result.andThen_ok]
theorem run_check (e : Bool) (x : S) (W : World) : (Instr.checkKey e 10000 32 (keyV x)).run Tryz.prog W = .ok () W := check_pt e 9998 x W
def Ents (es : List MapEntry) (ks : List (S × Nat)) : Prop := es.map (fun e => (e.key, e.val)) = ks.map fun k => (keyV k.1, Value.int .i64 (k.2 : Int))
def findP (x : S) : List (S × Nat) → Nat → Option (Nat × Nat)
  | [], _ => none
  | k :: ks, i => if sameW x k.1 = true then some (i, k.2) else findP x ks (i + 1)
theorem run_asking (x : S) (W : World) : ∀ (es : List MapEntry) (ks : List (S × Nat)) (i : Nat), Ents es ks → (Instr.findAsking 32 (keyV x) es i).run Tryz.prog W = .ok ((findP x ks i).map fun p => (p.1, Value.int .i64 (p.2 : Int))) W
  | [], [], i, _ => by simp [Instr.findAsking, findP]
  | [], _ :: _, i, h => by simp [Ents] at h
  | _ :: _, [], i, h => by simp [Ents] at h
  | e :: es, k :: ks, i, h => by
    simp only [Ents, List.map_cons, List.cons.injEq, Prod.mk.injEq] at h
    obtain ⟨⟨h1, h2⟩, h3⟩ := h
    have ih := run_asking x W es ks (i + 1) h3
    have hs := run_same x k.1 W
    unfold Instr.findAsking findP
    rw [h1, h2]
    simp only [Sem.run_bind, hs, Result.andThen_ok]
    cases hh : sameW x k.1
    · simp [ih]
    · simp
theorem run_find (x : S) (W : World) (es : Array MapEntry) (ks : List (S × Nat)) (h : Ents es.toList ks) : (Instr.findKey 32 (keyV x) es.toList).run Tryz.prog W = .ok ((findP x ks 0).map fun p => (p.1, Value.int .i64 (p.2 : Int))) W := by
  unfold Instr.findKey
  simp only [Sem.run_bind, run_underlying Tryz.underlying32, Result.andThen_ok]
  cases hes : es.toList with
  | nil =>
    rw [hes] at h
    have : ks = [] := by cases ks with | nil => rfl | cons a b => simp [Ents] at h
    subst this
    simp [Instr.findNow, findP]
  | cons e t =>
    have := run_asking x W es.toList ks 0 h
    rw [hes] at this
    simp [Instr.findNow, keyV, Instr.sameNow] at this ⊢
    exact this
def lookN (x : S) (ks : List (S × Nat)) : Nat := match findP x ks 0 with
  | some p => p.2
  | none => 0
theorem run_lookup {W : World} {r clk : Nat} {es : Array MapEntry} {ks : List (S × Nat)} {x : S} (hr : W.heap[r]? = some (.map es clk)) (he : Ents es.toList ks) :
    (Instr.lookup 55 (.map (some r)) (keyV x) true).run Tryz.prog W = .ok (.tuple #[.int .i64 (lookN x ks : Nat), .bool (findP x ks 0).isSome]) W := by
  have hu := run_underlying Tryz.underlying55 (w := W)
  have hg : (getObj r).run Tryz.prog W = .ok (.map es clk) W := MapKept.run_getObj_map hr
  have hk := run_check es.isEmpty x W
  have hf := run_find x W es ks he
  have hz := Tryz.zeroValue3 W
  unfold Instr.lookup
  simp only [Sem.run_bind, hu, hg, Result.andThen_ok, Sem.run_pure]
  rw [hk]
  simp only [Result.andThen_ok]
  rw [hf]
  simp only [Result.andThen_ok]
  unfold lookN
  cases findP x ks 0 with
  | none => simp [hz, Result.andThen_ok, Sem.run_bind]
  | some p => simp [Result.andThen_ok, Sem.run_bind]
theorem run_update {W : World} {r clk : Nat} {es : Array MapEntry} {ks : List (S × Nat)} {x : S} {v : Value} (hr : W.heap[r]? = some (.map es clk)) (he : Ents es.toList ks) (hn : findP x ks 0 = none) :
    (Instr.mapUpdate 55 (.map (some r)) (keyV x) v).run Tryz.prog W = .ok () { W with heap := W.heap.setIfInBounds r (.map (es.push { key := keyV x, val := v, born := clk }) (clk + 1)) } := by
  have hu := run_underlying Tryz.underlying55 (w := W)
  have hg : (getObj r).run Tryz.prog W = .ok (.map es clk) W := MapKept.run_getObj_map hr
  have hk := run_check false x W
  have hf := run_find x W es ks he
  rw [hn] at hf
  unfold Instr.mapUpdate
  simp only [Sem.run_bind, hu, hg, Result.andThen_ok]
  rw [hk]
  simp only [Result.andThen_ok]
  rw [hf]
  simp only [Result.andThen_ok, Option.map_none]
  exact MapKept.run_setObj_map _ hr
def plus0 (x : Nat) : Nat := (floatBits .add .f64 x 0).getD 0
theorem plus0_ok {x : Nat} (h : Fini x) : floatBits .add .f64 x 0 = some (plus0 x) ∧ Fini (plus0 x) ∧ fval (plus0 x) = fval x := by
  have hR : Rnd.R (fval x + fval 0) = fval x := by rw [show fval 0 = 0 from by decide, Int.add_zero]; exact Rnd.R_rep (Rnd.fval_rep x)
  obtain ⟨r, h1, h2, h3⟩ := add_fin h (y := 0) ⟨by decide, by decide⟩ (by rw [hR, natAbs_fval]; exact h.lt)
  have : plus0 x = r := by unfold plus0; rw [h1]; rfl
  rw [this]
  exact ⟨h1, h2, by rw [h3, hR]⟩
def norm (x : S) : S := ⟨plus0 x.f0, plus0 x.f1⟩
theorem same_norm {x y : S} (h : Fini x.f0 ∧ Fini x.f1) (k : Fini y.f0 ∧ Fini y.f1) : sameW (norm x) (norm y) = decide ((fval x.f0, fval x.f1) = (fval y.f0, fval y.f1)) := by
  have a0 := plus0_ok h.1
  have a1 := plus0_ok h.2
  have b0 := plus0_ok k.1
  have b1 := plus0_ok k.2
  unfold sameW
  rw [alike_words (x := norm x) (y := norm y) ⟨a0.2.1, a1.2.1⟩ ⟨b0.2.1, b1.2.1⟩]
  show decide ((fval (plus0 x.f0), fval (plus0 x.f1)) = (fval (plus0 y.f0), fval (plus0 y.f1))) = _
  rw [a0.2.2, a1.2.2, b0.2.2, b1.2.2]
theorem findP_none {x : S} : ∀ (ks : List (S × Nat)) (i : Nat), findP x ks i = none ↔ ∀ k ∈ ks, sameW x k.1 = false
  | [], i => by simp [findP]
  | k :: ks, i => by
    unfold findP
    by_cases h : sameW x k.1 = true
    · rw [if_pos h]; simp [h]
    · rw [if_neg h, findP_none ks]; simp [h]
theorem findP_some {x : S} {j n : Nat} : ∀ (ks : List (S × Nat)) (i : Nat), findP x ks i = some (j, n) → ∃ k ∈ ks, k.2 = n ∧ sameW x k.1 = true
  | [], i, h => by simp [findP] at h
  | k :: ks, i, h => by
    unfold findP at h
    by_cases hk : sameW x k.1 = true
    · rw [if_pos hk] at h; simp at h; exact ⟨k, by simp, h.2, hk⟩
    · rw [if_neg hk] at h
      obtain ⟨k', h1, h2, h3⟩ := findP_some ks _ h
      exact ⟨k', by simp [h1], h2, h3⟩
def tw (P : Nat → Geo.Pt) (n : Nat) : Nat := ((List.range (n + 1)).find? fun k => decide (P k = P n)).getD 0
theorem tw_spec (P : Nat → Geo.Pt) (n : Nat) : tw P n ≤ n ∧ P (tw P n) = P n ∧ Geo.First P (tw P n) := by
  unfold tw
  cases h : (List.range (n + 1)).find? fun k => decide (P k = P n) with
  | none =>
    have := List.find?_eq_none.mp h n (by simp)
    simp at this
  | some k =>
    have h1 := List.find?_some h
    have h2 := List.mem_of_find?_eq_some h
    simp at h1 h2
    refine ⟨by show k ≤ n; omega, h1, fun j hj he => ?_⟩
    change j < k at hj
    have h3 : P j = P n := he.trans h1
    obtain ⟨_, us, vs, e, h4⟩ := List.find?_eq_some_iff_append.mp h
    have hlen : us.length = k := by
      have : (List.range (n + 1))[us.length]? = some k := by rw [e]; simp
      rw [List.getElem?_range (by
        have := congrArg List.length e; simp at this; omega)] at this
      exact Option.some.inj this
    have hj' : j ∈ us := by
      have : (List.range (n + 1))[j]? = us[j]? := by rw [e, List.getElem?_append_left (by omega)]
      rw [List.getElem?_range (by omega)] at this
      exact List.mem_of_getElem? this.symm
    have := h4 j hj'
    simp at this
    exact this h3
theorem tw_unique {P : Nat → Geo.Pt} {n k : Nat} (h2 : P k = P n) (h3 : Geo.First P k) : tw P n = k := by
  obtain ⟨_, t2, t3⟩ := tw_spec P n
  rcases Nat.lt_trichotomy (tw P n) k with h | h | h
  · exact absurd (t2.trans h2.symm) (h3 _ h)
  · exact h
  · exact absurd (h2.trans t2.symm) (t3 _ h)
theorem tw_first {P : Nat → Geo.Pt} {i : Nat} : tw P i = i ↔ Geo.First P i := ⟨fun h => h ▸ (tw_spec P i).2.2, fun h => tw_unique rfl h⟩
def Kz (l : List S) (n : Nat) (ks : List (S × Nat)) : Prop := (∀ k ∈ ks, k.2 < n ∧ Geo.First (PT l) k.2 ∧ k.1 = norm (rd_T32 l (k.2 : Int))) ∧ ∀ i, i < n → Geo.First (PT l) i → ∃ k ∈ ks, k.2 = i
theorem kz_look {l : List S} {n : Nat} {ks : List (S × Nat)} (h : Kz l n ks) (hn : n < l.length) (hf : Fin2 l) :
    (findP (norm (rd_T32 l (n : Int))) ks 0 = none → tw (PT l) n = n) ∧ ((findP (norm (rd_T32 l (n : Int))) ks 0).isSome = true → tw (PT l) n = lookN (norm (rd_T32 l (n : Int))) ks) := by
  have same : ∀ i, i < l.length → sameW (norm (rd_T32 l (n : Int))) (norm (rd_T32 l (i : Int))) = decide (PT l n = PT l i) := fun i hi => same_norm (hf _ (rd_at hn)) (hf _ (rd_at hi))
  constructor
  · intro h0
    rw [findP_none] at h0
    rw [tw_first]
    intro k hk he
    have ts := tw_spec (PT l) k
    obtain ⟨p, p1, p2⟩ := h.2 (tw (PT l) k) (by omega) ts.2.2
    have := h0 p p1
    rw [(h.1 p p1).2.2, p2, same _ (by omega)] at this
    exact of_decide_eq_false this (he.symm.trans ts.2.1.symm)
  · intro h0
    cases hh : findP (norm (rd_T32 l (n : Int))) ks 0 with
    | none => rw [hh] at h0; cases h0
    | some q =>
      obtain ⟨j, m⟩ := q
      obtain ⟨p, p1, p2, p3⟩ := findP_some ks 0 hh
      have hp := h.1 p p1
      rw [hp.2.2, same _ (by omega)] at p3
      unfold lookN
      rw [hh]
      show tw (PT l) n = m
      rw [← p2]
      exact tw_unique (of_decide_eq_true p3).symm hp.2.1
theorem kz_keep {l : List S} {n : Nat} {ks : List (S × Nat)} (h : Kz l n ks) (hn : tw (PT l) n ≠ n) : Kz l (n + 1) ks := by
  refine ⟨fun k hk => ⟨by have := (h.1 k hk).1; omega, (h.1 k hk).2⟩, fun i hi hF => ?_⟩
  rcases Nat.lt_or_eq_of_le (Nat.le_of_lt_succ hi) with h1 | h1
  · exact h.2 i h1 hF
  · rw [h1] at hF; exact absurd (tw_first.mpr hF) hn
theorem kz_put {l : List S} {n : Nat} {ks : List (S × Nat)} (h : Kz l n ks) (hn : tw (PT l) n = n) : Kz l (n + 1) (ks ++ [(norm (rd_T32 l (n : Int)), n)]) := by
  refine ⟨fun k hk => ?_, fun i hi hF => ?_⟩
  · rcases List.mem_append.mp hk with hk | hk
    · exact ⟨by have := (h.1 k hk).1; omega, (h.1 k hk).2⟩
    · rw [List.mem_singleton.mp hk]; exact ⟨Nat.lt_succ_self _, tw_first.mp hn, rfl⟩
  · rcases Nat.lt_or_eq_of_le (Nat.le_of_lt_succ hi) with h1 | h1
    · obtain ⟨k, k1, k2⟩ := h.2 i h1 hF
      exact ⟨k, List.mem_append_left _ k1, k2⟩
    · exact ⟨_, List.mem_append_right _ (List.mem_singleton.mpr rfl), h1.symm⟩
theorem kz_lt {l : List S} {n : Nat} {ks : List (S × Nat)} {x : S} (h : Kz l n ks) (h0 : (findP x ks 0).isSome = true) : lookN x ks < n := by
  cases hh : findP x ks 0 with
  | none => rw [hh] at h0; cases h0
  | some q =>
    obtain ⟨j, m⟩ := q
    obtain ⟨p, p1, p2, p3⟩ := findP_some ks 0 hh
    unfold lookN
    rw [hh]
    show m < n
    rw [← p2]
    exact (h.1 p p1).1
def updW (W : World) (r clk : Nat) (es : Array MapEntry) (x : S) (v : Value) : World := { W with heap := W.heap.setIfInBounds r (.map (es.push { key := keyV x, val := v, born := clk }) (clk + 1)) }
theorem run_updW {W : World} {r clk : Nat} {es : Array MapEntry} {ks : List (S × Nat)} {x : S} (v : Value) (hr : W.heap[r]? = some (.map es clk)) (he : Ents es.toList ks) (hn : findP x ks 0 = none) :
    (Instr.mapUpdate 55 (.map (some r)) (.agg #[.float .f64 x.f0, .float .f64 x.f1]) v).run Tryz.prog W = .ok () (updW W r clk es x v) := run_update hr he hn
structure Tz (wr w : World) (m r g cap : Nat) (ys : List Int) (ks : List (S × Nat)) : Prop where
  len : ys.length = m
  row : Kd.R (Kd.int .i64) 3 wr w.heap.size (fun b => b = g) (.slice (some ⟨g, 0, none⟩) m cap) ys
  rge : w.heap.size ≤ r
  gge : w.heap.size ≤ g
  ne : r ≠ g
  glt : g < wr.heap.size
  map : ∃ es clk, wr.heap[r]? = some (.map es clk) ∧ Ents es.toList ks
  bel : Below w.heap.size w wr
theorem Tz.below {wr w W : World} {m r g cap : Nat} {ys : List Int} {ks : List (S × Nat)} (h : Tz wr w m r g cap ys ks) (hb : Below wr.heap.size wr W) : Tz W w m r g cap ys ks := by
  obtain ⟨es, clk, h1, h2⟩ := h.map
  exact { h with row := Kd.R_below h.row hb, glt := Nat.lt_of_lt_of_le h.glt hb.size, map := ⟨es, clk, (hb.block r (Array.getElem?_eq_some_iff.1 h1).1).trans h1, h2⟩, bel := h.bel.trans (hb.mono h.bel.size) }
theorem Tz.upd {wr w W : World} {m r g cap clk : Nat} {ys : List Int} {ks ks' : List (S × Nat)} {es : Array MapEntry} (h : Tz wr w m r g cap ys ks) (h1 : W.heap[r]? = some (.map es clk)) (h2 : Ents es.toList ks') (h3 : ∀ k, k ≠ r → W.heap[k]? = wr.heap[k]?) (h4 : W.heap.size = wr.heap.size) (h5 : W.os = wr.os) (h6 : W.tape = wr.tape) (h7 : W.output = wr.output) : Tz W w m r g cap ys ks' where
  len := h.len
  row := Kd.R_step h.row fun k hk _ => h3 k (by rw [hk]; exact (Ne.symm h.ne))
  rge := h.rge
  gge := h.gge
  ne := h.ne
  glt := by rw [h4]; exact h.glt
  map := ⟨es, clk, h1, h2⟩
  bel := ⟨h5.trans h.bel.1, h6.trans h.bel.2, h7.trans h.bel.3, by rw [h4]; exact h.bel.size, fun k hk => (h3 k (by have := h.rge; omega)).trans (h.bel.block k hk)⟩
theorem Tz.put {wr w : World} {m r g cap k : Nat} {v : Int} {ys : List Int} {ks : List (S × Nat)} (h : Tz wr w m r g cap ys ks) : Tz (wr.setCell ⟨g, k, none⟩ (.int .i64 v)) w m r g cap (ys.set k v) ks where
  len := by simp [h.len]
  row := by have := Kd.R_putn h.row (k : Int) v; rw [Int.toNat_natCast] at this; exact this
  rge := h.rge
  gge := h.gge
  ne := h.ne
  glt := by simpa using h.glt
  map := by obtain ⟨es, clk, h1, h2⟩ := h.map; exact ⟨es, clk, (Below.heap_setCell _ _ _ _ (by show r ≠ g; exact h.ne)).trans h1, h2⟩
  bel := h.bel.setCell (by show w.heap.size ≤ g; exact h.gge) _
theorem Tz.cell {wr w : World} {m r g cap k : Nat} {ys : List Int} {ks : List (S × Nat)} (h : Tz wr w m r g cap ys ks) (hk : k < m) : wr.cell? ⟨g, k, none⟩ = some (.int .i64 (ys[k]?.getD 0)) ∧ wr.frozen? ⟨g, k, none⟩ = false := by
  have := Kd.R_celln (0 : Int) h.row (k : Int) (by omega) (by omega)
  simpa [rdOf, List.getD_eq_getElem?_getD] using this
theorem Tz.updW {W w : World} {m r g cap clk n : Nat} {ys : List Int} {ks : List (S × Nat)} {es : Array MapEntry} {x : S} (h : Tz W w m r g cap ys ks) (hr : W.heap[r]? = some (.map es clk)) (he : Ents es.toList ks) : Tz (updW W r clk es x (.int .i64 (n : Int))) w m r g cap ys (ks ++ [(x, n)]) := by
  have hlt : r < W.heap.size := (Array.getElem?_eq_some_iff.1 hr).1
  refine h.upd (es := es.push { key := keyV x, val := .int .i64 (n : Int), born := clk }) (clk := clk + 1) (by simp [Adm.updW, hlt]) ?_ (fun k hk => by simp [Adm.updW, Ne.symm hk]) (by simp [Adm.updW]) rfl rfl rfl
  unfold Ents at he ⊢
  rw [Array.toList_push, List.map_append, he, List.map_append]
  rfl
theorem val_step {n k : Nat} {xs : List Int} {f : Nat → Int} (hl : xs.length = n) (hk : k < n) (h : ∀ j : Nat, j < k → rd xs (j : Int) = f j) {v : Int} (hv : v = f k) : ∀ j : Nat, j < k + 1 → rd (xs.set k v) (j : Int) = f j := by
  intro j hj
  by_cases e : j = k
  · subst e; simp [rd, List.getD_eq_getElem?_getD, hl, hk, hv]
  · have := h j (by omega)
    simp [rd, List.getD_eq_getElem?_getD] at this ⊢
    rw [List.getElem?_set_ne (by omega)]; exact this
def twAll (l : List S) : List Nat := if (allF l).2 = 0 then (List.range l.length).map (tw (PT l)) else []
set_option maxRecDepth 100000 in
set_option maxHeartbeats 2000000 in
theorem twins_calls (A : Option Addr) (c : Nat) (l : List S) (w : World) (hl : Kd.C k32 w A l.length l) (hc : l.length ≤ c) (hw : Wd l) :
    Calls Tryz.prog 15 #[.slice A l.length c] w fun e w' => ∃ v : Value, e = .returned v ∧ Kd.R (Kd.int .i64) 3 w' w.heap.size (fun _ => True) v (zi (twAll l)) ∧ Below w.heap.size w w' := by
  have hmm := @run_makeMap Tryz.prog
  have hgd := good_calls A c l w hl hc hw
  have hu32 := Tryz.underlying32
  unfold twAll
  by_cases hg : (allF l).2 = 0
  · rw [if_pos hg]
    rw [show ((allF l).2 == 0) = true from beq_iff_eq.mpr hg] at hgd
    obtain ⟨h20, hgp⟩ := (allF_ok l).mp hg
    have hf := good_fin hgp
    have hl8 : ((l.length : Nat) : Int).toNat * 8 ≤ 281474976710656 := by omega
    go_enter Tryz.func15, Tryz.ntmps15
    go_wp2_with (first | (go_at_call 45; (with_reducible refine hgd.mono ?_); rintro u w1 ⟨rfl, hb1⟩) | ((with_reducible refine gate_dst (N := 15) rfl ?_); refine Kd.R_make (Kd.int .i64) _ 3 rfl (N := 15) rfl 26 _ _ rfl (l.length : Int) rfl rfl Tryz.underlying26 (.int .i64 0) 8 infoI rfl (by decide) (by omega) (0 : Int) (ok := fun _ => True) (okp := fun _ => True) rfl (fun _ hk => hk) trivial (by omega) hl8 (Below.refl _ _) (Nat.le_refl _) ?_; intro v1 w2 ho1 hb2 hg1 hnew1))
    by_cases h0 : l.length = 0
    · obtain rfl : l = [] := List.length_eq_zero_iff.mp h0
      obtain ⟨A2, c2, rfl⟩ := Kd.R_slice ho1
      have HO := Lib.hid ho1
      have HB := Lib.hid hb2
      clear ho1 hb2 hg1 hnew1
      refine wp_loop_rounds 1 ?_
      rw [rounds_succ]
      go_wp2
      go_ret
      have h1 : w.heap.size ≤ w1.heap.size := hb1.size
      exact ⟨_, rfl, Kd.R_lower HO.out (by simp; omega), (hb1.trans ((Below.refl _ _).alloc h1 _)).trans (HB.out.mono (by simp; omega))⟩
    · obtain ⟨g, cap, xs, hxl, rfl, hR, hgB, hS, hFr⟩ := opened ho1 (by omega)
      have hgB1 : w1.heap.size + 1 ≤ g := by simpa using hgB
      have hw1 : w.heap.size ≤ w1.heap.size := hb1.size
      have T0 : Tz w2 w l.length w1.heap.size g cap xs [] := by
        refine ⟨hxl, Kd.R_flat (fun h => h) (Kd.R_lower hR (by simp; omega)) (fun k hk _ => by simp [Value.ownBlock] at hk; exact hk.symm), hw1, by omega, by omega, hS, ⟨#[], 0, ?_, rfl⟩, (hb1.trans ((Below.refl _ _).alloc hw1 _)).trans (hb2.mono (by simp; omega))⟩
        rw [hb2.block _ (by simp)]; exact heap_alloc_new _ _
      clear ho1 hg1 hnew1 hR hb2 hxl
      go_loopw [18] (fun i wr => ∃ (k : Nat) (ys : List Int) (ks : List (S × Nat)), k ≤ l.length ∧ i = .int .i64 k ∧ Tz wr w l.length w1.heap.size g cap ys ks ∧ Kz l k ks ∧ ∀ j : Nat, j < k → rd ys (j : Int) = (tw (PT l) j : Nat)) (fun i _ => l.length - (intOf i).toNat)
      case atStart => exact ⟨0, xs, [], Nat.zero_le _, rfl, T0, ⟨fun k hk => by simp at hk, fun i hi => absurd hi (Nat.not_lt_zero _)⟩, fun j hj => absurd hj (Nat.not_lt_zero _)⟩
      case round =>
        obtain ⟨k, ys, ks, hk, rfl, T, HK, HV⟩ := hrel
        by_cases hlt : k < l.length
        · have HC := T.cell hlt
          have hx2 := hf _ (rd_at hlt)
          have p0 := plus0_ok hx2.1
          have p1 := plus0_ok hx2.2
          have d1 : decide ((k : Int) < (l.length : Int)) = true := by simp; omega
          have d2 : decide (k < l.length) = true := by simp; omega
          have e1 : decide ((0 : Int) ≤ k) = true := by simp
          have kz := kz_look HK hlt hf
          have KP := Lib.hid (kz_put HK)
          have hlw := Kd.C_below hl T.bel
          obtain ⟨es, clk, hmp, hen⟩ := T.map
          obtain ⟨ad, rfl, hx0, hx1⟩ := at_T32 hlw k (by omega) (by omega)
          rw [Int.toNat_natCast] at hx0 hx1
          have hnrm : norm (rd_T32 l (k : Int)) = ⟨plus0 (rd_T32 l (k : Int)).f0, plus0 (rd_T32 l (k : Int)).f1⟩ := rfl
          generalize rd_T32 l (k : Int) = x at *
          obtain ⟨q0, -, -⟩ := p0
          obtain ⟨q1, -, -⟩ := p1
          have KZ := Lib.hid kz
          clear kz
          have g1 := fun w_ => run_float_arith (P := Tryz.prog) w_ .add 30 .f64 x.f0 0 _ q0
          have g2 := fun w_ => run_float_arith (P := Tryz.prog) w_ .add 30 .f64 x.f1 0 _ q1
          clear q0 q1
          have T1 := T.below (((Below.refl _ _).alloc (Nat.le_refl _) (.cells #[.float .f64 (plus0 x.f0), .float .f64 (plus0 x.f1)] 32)))
          have hmp1 : (wr.alloc (.cells #[.float .f64 (plus0 x.f0), .float .f64 (plus0 x.f1)] 32)).heap[w1.heap.size]? = some (.map es clk) := ((Below.refl _ _).alloc (Nat.le_refl _) _).block _ (Array.getElem?_eq_some_iff.1 hmp).1 |>.trans hmp
          have hlk := run_lookup (x := norm x) hmp1 hen
          by_cases hfd : (findP (norm x) ks 0).isSome = true
          · have KV := Lib.hid (KZ.out.2 hfd)
            have KL := Lib.hid (kz_lt HK hfd)
            clear KZ
            rw [hfd] at hlk
            generalize lookN (norm x) ks = v at *
            unfold keyV norm at hlk
            have HC1 := T1.cell hlt
            clear hmp hen hnrm hmp1 hfd
            go_wp2
            go_roundw
            case rel => 
              have e1 := KV.out
              have e2 := KL.out
              exact ⟨k + 1, ys.set k v, ks, by omega, by go_num, T1.put, kz_keep HK (by omega), val_step (f := fun j => ((tw (PT l) j : Nat) : Int)) T.len hlt HV (by show (v : Int) = (tw (PT l) k : Nat); omega)⟩
            case measure => simp [intOf]; omega
          · have hfn : findP (norm x) ks 0 = none := by
              cases h : findP (norm x) ks 0 with
              | none => rfl
              | some p => rw [h] at hfd; exact absurd rfl hfd
            have KV := Lib.hid (KZ.out.1 hfn)
            have T2 := T1.updW (x := norm x) (n := k) hmp1 hen
            have hup : (Instr.mapUpdate 55 (.map (some w1.heap.size)) (.agg #[.float .f64 (plus0 x.f0), .float .f64 (plus0 x.f1)]) (.int .i64 (k : Int))).run Tryz.prog (wr.alloc (.cells #[.float .f64 (plus0 x.f0), .float .f64 (plus0 x.f1)] 32)) = .ok () (Adm.updW (wr.alloc (.cells #[.float .f64 (plus0 x.f0), .float .f64 (plus0 x.f1)] 32)) w1.heap.size clk es (norm x) (.int .i64 (k : Int))) := run_updW (x := norm x) (.int .i64 (k : Int)) hmp1 hen hfn
            generalize Adm.updW (wr.alloc (.cells #[.float .f64 (plus0 x.f0), .float .f64 (plus0 x.f1)] 32)) w1.heap.size clk es (norm x) (.int .i64 (k : Int)) = W2 at *
            have HC1 := T2.cell hlt
            have hfd' : (findP (norm x) ks 0).isSome = false := by rw [hfn]; rfl
            rw [hfd'] at hlk
            generalize lookN (norm x) ks = v at *
            unfold keyV at hlk
            change (Instr.lookup 55 (.map (some w1.heap.size)) (.agg #[.float .f64 (plus0 x.f0), .float .f64 (plus0 x.f1)]) true).run Tryz.prog _ = _ at hlk
            clear KZ hmp hen hmp1 hfd hfd' hfn hnrm
            go_wp2
            go_roundw
            case rel =>
              have e1 := KV.out
              exact ⟨k + 1, ys.set k k, ks ++ [(norm x, k)], by omega, by go_num, T2.put, KP.out e1, val_step (f := fun j => ((tw (PT l) j : Nat) : Int)) T.len hlt HV (by show (k : Int) = (tw (PT l) k : Nat); omega)⟩
            case measure => simp [intOf]; omega
        · obtain rfl : k = l.length := by omega
          have d1 : decide ((l.length : Int) < (l.length : Int)) = false := by simp
          go_wp2
          go_ret
          have : ys = zi ((List.range l.length).map (tw (PT l))) := by
            apply List.ext_getElem
            · simp [zi, T.len]
            · intro j h1 h2
              have := HV j (by have := T.len; omega)
              simp [rd, List.getD_eq_getElem?_getD, List.getElem?_eq_getElem h1] at this
              simp [zi, this]
          rw [← this]
          exact ⟨_, rfl, Kd.R_mono T.row (fun _ _ => trivial), T.bel⟩
  · rw [if_neg hg]
    rw [show ((allF l).2 == 0) = false from beq_eq_false_iff_ne.mpr hg] at hgd
    go_enter Tryz.func15, Tryz.ntmps15
    go_wp2_with (go_at_call 45; (with_reducible refine hgd.mono ?_); rintro u w1 ⟨rfl, hb1⟩)
    go_ret
    exact ⟨_, rfl, Kd.R_nil _ _ _ _ _, hb1⟩
end Go.Proofs.YtioahkblhekgpaaGreatDoor.Adm
namespace Go.Proofs.YtioahkblhekgpaaGreatDoor.Adm
open Go.RowKit Go.Proofs.YtioahkblhekgpaaGreatDoor.FltP Go.Proofs.YtioahkblhekgpaaGreatDoor.R Go.Proofs.YtioahkblhekgpaaGreatDoor.E Go.Proofs.YtioahkblhekgpaaGreatDoor.O Go.Proofs.YtioahkblhekgpaaGreatDoorW.PrintWords Go.Proofs.YtioahkblhekgpaaGreatDoorW.PrintLast Go.Proofs.YtioahkblhekgpaaGreatDoorW.PrintMore
def fst (P : Nat → Geo.Pt) (i : Nat) : Bool := decide (tw P i = i)
theorem fst_iff {P : Nat → Geo.Pt} {n : Nat} : ∀ i, i < n → (fst P i = true ↔ Geo.First P i) := fun i _ => by unfold fst; rw [decide_eq_true_iff]; exact tw_first
theorem unlAll_eq {l : List S} (h : (allF l).2 = 0) : unlAll l = (orderN l).filter (fst (PT l)) := by
  unfold unlAll ordAll
  rw [if_pos h]
  exact Geo.compact_spec fst_iff (orderN_sorted l)
theorem flat_iff {l : List S} (h : (allF l).2 = 0) : flatAll l = true ↔ Geo.AllFlat (PT l) l.length := by
  have ho := orderN_sorted l
  have hu := unl_lt l
  have ha := Geo.unlike_asc (P := PT l) fst_iff ho
  have hall : ∀ i, i < l.length → ∃ k ∈ unlAll l, PT l k = PT l i := fun i hi => by rw [unlAll_eq h]; exact Geo.unlike_all fst_iff ho hi
  rw [← unlAll_eq h] at ha
  rw [Geo.allflat_unlike hu hall]
  unfold flatAll
  rw [if_pos h]
  generalize unlAll l = u at *
  by_cases h3 : u.length < 3
  · rw [if_pos h3]
    exact ⟨fun _ => Geo.flat_few h3, fun _ => rfl⟩
  · rw [if_neg h3]
    match u, h3, ha with
    | [], h3, _ => exact absurd (by decide) h3
    | [a], h3, _ => exact absurd (show [a].length < 3 by simp) h3
    | a :: b :: r, _, ha =>
      have hab : PT l a ≠ PT l b := Geo.ahead_ne ((List.pairwise_cons.mp ha).1 b (by simp))
      rw [Geo.flat_three hab]
      show (!(r.any fun i => decide (sgnAt l a b i ≠ 0))) = true ↔ _
      rw [Bool.not_eq_true', List.any_eq_false]
      constructor
      · intro hh c hc
        have := hh c hc
        simp only [decide_not, Bool.not_eq_true', decide_eq_false_iff_not] at this
        unfold sgnAt at this
        exact Int.sign_eq_zero_iff_zero.mp (by simpa using this)
      · intro hh c hc
        have : sgnAt l a b c = 0 := by unfold sgnAt; rw [hh c hc]; rfl
        simp [this]
instance (P : Nat → Geo.Pt) (i j : Nat) : Decidable (Geo.Lt P i j) := by unfold Geo.Lt; exact inferInstance
end Go.Proofs.YtioahkblhekgpaaGreatDoor.Adm
