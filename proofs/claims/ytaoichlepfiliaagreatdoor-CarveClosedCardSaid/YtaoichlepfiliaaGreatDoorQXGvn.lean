/- Lemmas of Gvn. Conditions stand in each. -/
import Derived.Laws.IdiomArrays
import Derived.Deep.Strs
import Derived.Lib.SmallJoins
import Derived.Test.YtaoichlepfiliaaGreatDoorQXMdJ
import Derived.Test.YtaoichlepfiliaaGreatDoorQXMdx
import Derived.Test.YtaoichlepfiliaaGreatDoorQXKfl
import Derived.Test.YtaoichlepfiliaaGreatDoorRows
import Derived.WalkKit
import Derived.ProofKit
import Derived.OpenShut
import Derived.ShutString
import Derived.ChangeOld
import Derived.Below
import Derived.SizedLaws
import Derived.Carry
import Derived.Laws.Cover2
import Derived.LaidMore
import Derived.Stop.Joined
set_option linter.unusedSimpArgs false
set_option linter.unusedVariables false
section
namespace Go.Proofs.YtaoichlepfiliaaGreatDoor.Pts
open Go.Deep Go.ChangeShapes Go.WideShapes Go.ChangeAt Go.RowKit Go.Joins Go.Proofs.YtaoichlepfiliaaGreatDoor.E Go.Proofs.YtaoichlepfiliaaGreatDoor.Kfl Go.Proofs.YtaoichlepfiliaaGreatDoor.Msh Go.Proofs.YtaoichlepfiliaaGreatDoorW.PrintWords Go.Proofs.YtaoichlepfiliaaGreatDoorW.PrintLast
section
variable {H : Type} {enc : TypeId × Value → H} {W : World} {base : Nat} {spare : Nat → Bool} {held : Bool}
theorem open_rows {α : Type} [Inhabited α] {d : Kd α} {ec : α → List Value} (F : Flat d ec) {ts e : TypeId} {ok : α → Prop} (hts : Tryz.prog.underlying ts = some (.slice e)) (hce : Tryz.prog.cellsOf e = d.sz)
 (hel : ∀ n cs y, cs.length = d.sz → DataW.trod enc Tryz.prog W base spare held n e cs = some y → ∃ x, cs = ec x ∧ ok x) {c0 : Value} {fuel : Nat} {y : DataW H × List MemPlace} (h : DataW.trod enc Tryz.prog W base spare held fuel ts [c0] = some y) :
 ∃ (A : Option Addr) (l : List α) (c : Nat), c0 = .slice A l.length c ∧ d.C W A l.length l ∧ l.length ≤ c ∧ ∀ x ∈ l, ok x := by
 rcases open_slice hts h with ⟨hcs, _⟩ | ⟨a, n, c, m, n', D, Pl, hcs, _, hl, hm, hmm, _, hx⟩
 ·have e : c0 = .slice none 0 0 := by simpa using hcs
  subst e
  exact ⟨none, [], 0, rfl, ⟨rfl, Nat.zero_le _, fun h => absurd h (Nat.lt_irrefl 0)⟩, Nat.le_refl _, fun x hx => by simp at hx⟩
 ·have e : c0 = .slice (some a) n c := by simpa using hcs
  subst e
  have hml : n ≤ m := by rw [hmm]; split <;> omega
  obtain ⟨G, hG⟩ := choose_lt (α := α) (n := n) (p := fun i x => (∀ k u, (ec x)[k]? = some u → W.cell? (a.add (i * d.sz + k)) = some u) ∧ ok x) (fun i hi => by
   obtain ⟨cs', h1, h2⟩ := hx i (by omega)
   rw [hce] at h1
   obtain ⟨_, hlen, hc⟩ := World.cells?_some h1
   obtain ⟨x, rfl, w0⟩ := hel _ _ _ hlen h2
   refine ⟨x, fun k u hk => ?_, w0⟩
   have hk2 : k < (ec x).length := (List.getElem?_eq_some_iff.mp hk).1
   have h3 := hc k (by rw [← F.len x]; exact hk2)
   rw [Deep.add_add] at h3
   rw [h3]
   exact hk)
  refine ⟨some a, (List.range n).map G, c, by simp, ⟨by simp, ?_, fun _ => ⟨a, rfl, fun j x hj => ?_⟩⟩, by simpa using hl, fun x hx => ?_⟩
  ·have : maxLen = 9223372036854775807 := rfl
   simp; omega
  ·have hj' : j < n := by
    have := (List.getElem?_eq_some_iff.mp hj).1
    simpa using this
   obtain rfl : G j = x := by simpa [hj'] using hj
   exact ⟨ec (G j), F.len _, (F.K _ _ _).mpr rfl, fun i u hi => (hG j hj').1 i u hi⟩
  ·obtain ⟨j, hj, rfl⟩ := List.mem_map.mp hx
   exact (hG j (List.mem_range.mp hj)).2
theorem trod_i64 {n : Nat} {t : TypeId} {c : Value} {y : DataW H × List MemPlace} (ht : Tryz.prog.underlying t = some (.int .i64)) (h : DataW.trod enc Tryz.prog W base spare held n t [c] = some y) : ∃ a, c = .int .i64 a ∧ W64 a := by
 obtain ⟨a, e, -, hw⟩ := DataW.trod_int ht h
 injection e with e _
 exact ⟨a, e, hw⟩
theorem three_of {cs : List Value} (h : cs.length = 3) : ∃ a b c, cs = [a, b, c] := by
 match cs, h with
 | [a, b, c], _ => exact ⟨a, b, c, rfl⟩
theorem tri_cells {n : Nat} {cs : List Value} {y : DataW H × List MemPlace} (hl : cs.length = 3) (h : DataW.trod enc Tryz.prog W base spare held n 53 cs = some y) : ∃ x : Tr, cs = cT x ∧ okT x := by
 obtain ⟨c0, c1, c2, rfl⟩ := three_of hl
 obtain ⟨y0, y1, y2, m, -, h0, h1, h2⟩ := trod_array3 Tryz.underlying53 (by kernel_rfl) h
 obtain ⟨a, rfl, wa⟩ := trod_i64 Tryz.underlying3 h0
 obtain ⟨b, rfl, wb⟩ := trod_i64 Tryz.underlying3 h1
 obtain ⟨c, rfl, wc⟩ := trod_i64 Tryz.underlying3 h2
 exact ⟨(a, b, c), rfl, wa, wb, wc⟩
theorem cellsI : Tryz.prog.cellsOf 3 = 1 := by kernel_rfl
set_option maxRecDepth 100000 in
theorem seg_cells {n : Nat} {cs : List Value} {y : DataW H × List MemPlace} (hl : cs.length = 3) (h : DataW.trod enc Tryz.prog W base spare held n 78 cs = some y) : ∃ x : Tr, cs = cT x ∧ okT x := by
 obtain ⟨c0, c1, c2, rfl⟩ := three_of hl
 obtain ⟨y0, y1, y2, m, -, -, h0, h1, h2⟩ := trod_struct3 Tryz.underlying78 h
 have h0' : DataW.trod enc Tryz.prog W base spare held m 3 [c0] = some y0 := by simpa [cellsI] using h0
 have h1' : DataW.trod enc Tryz.prog W base spare held m 3 [c1] = some y1 := by simpa [cellsI] using h1
 have h2' : DataW.trod enc Tryz.prog W base spare held m 3 [c2] = some y2 := by simpa [cellsI] using h2
 obtain ⟨a, rfl, wa⟩ := trod_i64 Tryz.underlying3 h0'
 obtain ⟨b, rfl, wb⟩ := trod_i64 Tryz.underlying3 h1'
 obtain ⟨c, rfl, wc⟩ := trod_i64 Tryz.underlying3 h2'
 exact ⟨(a, b, c), rfl, wa, wb, wc⟩
set_option maxRecDepth 100000 in
theorem open_given {v : Value} {d : DataW H} {p : List MemPlace} {r : Reach} {b0 : Nat} (hv : Value.okWide Tryz.prog W r b0 26 v) (h : DataW.Trod enc Tryz.prog W base spare held 26 v d p) :
 ∃ (AP : Option Addr) (l : List S71) (cP : Nat) (AT : Option Addr) (Ts : List Tr) (cT' : Nat) (AF : Option Addr) (Fs : List Tr) (cF : Nat), v = .agg #[.slice AP l.length cP, .slice AT Ts.length cT', .slice AF Fs.length cF] ∧ Kd.C k71 W AP l.length l ∧ l.length ≤ cP ∧ Adm.Wd l ∧ Kd.C kTr W AT Ts.length Ts ∧ Kd.C kTr W AF Fs.length Fs ∧ (∀ t ∈ Ts, okT t) ∧ ∀ t ∈ Fs, okT t := by
 obtain ⟨v0, v1, v2, y0, y1, y2, n, rfl, -, -, h0, h1, h2⟩ := open_agg3 Tryz.underlying26 (by kernel_rfl) (by kernel_rfl) hv h
 obtain ⟨AP, l, cP, rfl, hP, hcP, wP⟩ := open_rows (ok := fun x : S71 => x.f0 < 2 ^ 64 ∧ x.f1 < 2 ^ 64) flatP Tryz.underlying22 cellsPt (fun n cs y hl h => by
  obtain ⟨x, e, w0, w1⟩ := pt_cells hl h
  exact ⟨x, e, w0, w1⟩) h0
 obtain ⟨AT, Ts, cT', rfl, hT, -, wT⟩ := open_rows (ok := okT) flatT Tryz.underlying23 (by kernel_rfl) (fun n cs y hl h => tri_cells hl h) h1
 obtain ⟨AF, Fs, cF, rfl, hF, -, wF⟩ := open_rows (ok := okT) flatT Tryz.underlying24 (by kernel_rfl) (fun n cs y hl h => seg_cells hl h) h2
 exact ⟨AP, l, cP, AT, Ts, cT', AF, Fs, cF, rfl, hP, hcP, wP, hT, hF, wT, wF⟩
end
end Go.Proofs.YtaoichlepfiliaaGreatDoor.Pts
end
section
namespace Go.Proofs.YtaoichlepfiliaaGreatDoor.carveClosed
open Go.ChangeShapes Go.WideShapes Go.ChangeAt Go.RowKit Go.Joins
open Go.Proofs.YtaoichlepfiliaaGreatDoor.Pts
set_option maxRecDepth 100000 in
theorem lifted (os : Os) (started : os.Started) (H : Type) (enc : TypeId × Value → H) :
 ReturnsInHanded {} Tryz.checked os 6 .any (fun w args => (Rows.carveClosedSpec.pre enc Tryz.prog Tryz.f6 [] false w args ∧ laidMetH Tryz.prog [("math/bits.deBruijn32tab", Rows.laid_math_bits_deBruijn32tab)] w) ∧ sizedMet enc Tryz.prog Tryz.f6 (OpenSpec.ofChange Rows.carveClosedSpec) false w args) (Rows.carveClosedSpec.post enc Tryz.prog Tryz.f6 false true false false) := by
 refine returnsInHanded_of_change_and (C := Tryz.checked) (X := fun w _ => laidMetH Tryz.prog [("math/bits.deBruijn32tab", Rows.laid_math_bits_deBruijn32tab)] w) (fun _ _ _ hh h => h.of_heap hh) own started (by kernel_rfl) Tryz.func6
  (ChangeSpec.witness_shaped (enc := enc) (C := Tryz.checked) (os := os) (X := fun w _ => laidMetH Tryz.prog [("math/bits.deBruijn32tab", Rows.laid_math_bits_deBruijn32tab)] w) false (World.doorLaid Tryz.prog 3000 os) #[.agg #[.slice none 0 0, .slice none 0 0, .slice none 0 0], .slice none 0 0] 8 rfl (World.shaped_of_RefB (by kernel_rfl) (by kernel_rfl)) (by kernel_rfl) (by kernel_rfl) (by kernel_rfl) (door_met os _)) ?_
 intro W base args ds gs before hval0 hW hcnd hsz0 hL _
 have hsz : (DataW.weightsEach Tryz.prog (Tryz.f6.params.toList ++ Rows.carveClosedSpec.plain.varTypes Tryz.prog) (ds ++ gs)).all (· ≤ reachBytes) = true := hsz0
 have hval : ∀ (j : Nat) t v, Tryz.f6.params[j]? = some t → args[j]? = some v → Value.okWide Tryz.prog W .any base t v := hval0
 have hW' := hW
 obtain ⟨p, q, hA0, hV, rfl, hfz, hnd⟩ := hW
 have hA : DataW.TrodAll enc Tryz.prog W 0 (fun _ => true) true Tryz.f6.params.toList args.toList ds p := hA0
 rw [Tryz.params6] at hA hval hsz
 obtain ⟨v0, vs0, d0, ds0, p0, q0, hargs, rfl, rfl, h0, r0⟩ := trodAll_cons hA
 obtain ⟨v1, vs1, d1, ds1, p1, q1, rfl, rfl, rfl, h1, r1⟩ := trodAll_cons r0
 obtain ⟨rfl, rfl, rfl⟩ := trodAll_nil r1
 obtain rfl : args = #[v0, v1] := by cases args; simp_all
 obtain ⟨rfl, rfl⟩ := trodVars_none hV
 have k0 := h0
 have lt0 : ∀ x ∈ p0, x.block < W.heap.size := by obtain ⟨m, hm⟩ := k0; exact DataW.trod_lt m _ _ _ hm
 obtain ⟨AP0, l0, cP0, AT0, Ts0, cT0, AF0, Fs0, cF0, rfl, hP0, hcP0, w0, hT0, hF0, wT0, wF0⟩ := open_given (hval 0 26 v0 rfl rfl) h0
 have k1 := h1
 have lt1 : ∀ x ∈ p1, x.block < W.heap.size := by obtain ⟨m, hm⟩ := k1; exact DataW.trod_lt m _ _ _ hm
 obtain ⟨A1, l1, c1, rfl, hr1, hc1, w1⟩ := open_pts (hval 1 22 v1 rfl rfl) h1
 clear hA0 hval0 hsz0 hsz
 refine (Msh.carveClosed_run AP0 cP0 l0 AT0 cT0 Ts0 AF0 cF0 Fs0 A1 c1 l1 W hP0 hcP0 hT0 hF0 hr1 hc1 w0 wT0 wF0 w1).mono fun e W' ⟨he, bel⟩ => ?_
 subst he
 exact ⟨_, rfl, _, _, _, [], _, [], hW', trodAll_mk1 (shut_bool Tryz.underlying4 _), (trodAll_cons_mk (Below.trod laidOut (by kernel_rfl) (of_decide_eq_true (by kernel_rfl)) k0 bel lt0) (trodAll_cons_mk (Below.trod laidOut (by kernel_rfl) (of_decide_eq_true (by kernel_rfl)) k1 bel lt1) trodAll_mk0)), rfl, bel.frame _, fun h => by cases h⟩
theorem over : Rows.carveClosedRow.holds Tryz.pinned (OpenSpec.ofChange Rows.carveClosedSpec) :=
 OpenClaim.holds_of_wide 6 Tryz.f6 rfl rfl rfl rfl rfl rfl rfl ⟨rfl, rfl, rfl, rfl, rfl⟩ rfl rfl rfl rfl rfl fact3 Tryz.func6 fact1 fact4 fact2
  (fun os started H enc _ => lifted os started H enc)
theorem proved : Rows.CarveClosedSaid := over
end Go.Proofs.YtaoichlepfiliaaGreatDoor.carveClosed
namespace Go.Proofs.YtaoichlepfiliaaGreatDoor
theorem carveClosed_holds : Rows.CarveClosedSaid := carveClosed.proved
end Go.Proofs.YtaoichlepfiliaaGreatDoor
end
