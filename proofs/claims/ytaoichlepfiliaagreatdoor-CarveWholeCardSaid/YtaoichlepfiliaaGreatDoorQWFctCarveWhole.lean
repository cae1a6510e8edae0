/- Lemmas of FctCarveWhole. Conditions stand in each. -/
import Derived.Test.YtaoichlepfiliaaGreatDoorRows
import Derived.WalkKit
import Derived.ProofKit
import Derived.OpenShut
import Derived.ShutString
import Derived.ChangeOld
import Derived.Below
import Derived.SizedLaws
import Derived.Lib.SmallJoins
import Derived.Carry
import Derived.Laws.Cover2
import Derived.LaidMore
import Derived.Stop.Joined
import Derived.Deep.Slices
import Derived.Maps.OwnOps
import Derived.Test.YtaoichlepfiliaaGreatDoorQWMcj
import Derived.Laws.IdiomArrays
import Derived.Deep.Strs
import Derived.Test.YtaoichlepfiliaaGreatDoorQWMdu
import Derived.Test.YtaoichlepfiliaaGreatDoorQWKfl
import Derived.Test.YtaoichlepfiliaaGreatDoorQWMdF
set_option linter.unusedSimpArgs false
set_option linter.unusedVariables false
section
namespace Go.Proofs.YtaoichlepfiliaaGreatDoor.carveWhole
open Go.ChangeShapes Go.WideShapes Go.ChangeAt Go.RowKit Go.Joins
theorem fact1 : joinedFacts Tryz.pinned.checked.prog 4 Tryz.f4 Rows.carveWholeSpec Rows.carveWholeRow = true := by kernel_rfl
theorem fact2 : Tryz.f4.isWrapper Tryz.pinned.checked.prog Rows.carveWholeRow.wrapper Rows.carveWholeRow.mainSum := by unfold Func.isWrapper; first | (rw [if_pos (by decide +kernel)]; kernel_rfl) | (rw [if_neg (by decide +kernel)]; exact ⟨rfl, rfl⟩)
theorem fact3 : Tryz.pinned.checked.prog.funcNamed Rows.carveWholeRow.func = some 4 := by kernel_rfl
theorem fact4 : Tryz.f4.isInstance Tryz.pinned.checked.prog Rows.carveWholeRow.origin Rows.carveWholeRow.targs := of_decide_eq_true (by kernel_rfl)
end Go.Proofs.YtaoichlepfiliaaGreatDoor.carveWhole
end
section
namespace Go.Proofs.YtaoichlepfiliaaGreatDoor.Pts
open Go.Deep Go.ChangeShapes Go.WideShapes Go.ChangeAt Go.RowKit Go.Joins Go.Proofs.YtaoichlepfiliaaGreatDoor.E Go.Proofs.YtaoichlepfiliaaGreatDoorW.PrintWords
theorem own : ownKnob Tryz.prog.godebug = none := by kernel_rfl
theorem laidOut : laidOutB Tryz.prog = true := by kernel_rfl
theorem cellsPt : Tryz.prog.cellsOf 71 = 2 := by kernel_rfl
theorem cellsF : Tryz.prog.cellsOf 69 = 1 := by kernel_rfl
theorem trod_f64 {H : Type} {enc : TypeId × Value → H} {P : Program} {w : World} {base : Nat} {spare : Nat → Bool} {held : Bool} {fuel : Nat} {t : TypeId} {cs : List Value} {x : DataW H × List MemPlace} (ht : P.underlying t = some (.float .f64)) (h : DataW.trod enc P w base spare held fuel t cs = some x) : ∃ b, cs = [.float .f64 b] ∧ x = (.lit (.float .f64 b), []) ∧ b < 2 ^ 64 := by
 cases fuel with
 | zero => simp [DataW.trod] at h
 | succ n =>
  unfold DataW.trod at h
  rw [ht] at h
  split at h <;> first | (simp_all; done) | skip
  rename_i k k' b hk
  cases hk
  split at h
  ·rename_i hw
   obtain ⟨rfl, hw⟩ := hw
   injection h with h
   exact ⟨b, rfl, h.symm, by simpa [Lit.wf] using hw⟩
  ·cases h
theorem two_of {cs : List Value} (h : cs.length = 2) : ∃ a b, cs = [a, b] := by
 match cs, h with
 | [a, b], _ => exact ⟨a, b, rfl⟩
set_option maxRecDepth 100000 in
theorem pt_cells {H : Type} {enc : TypeId × Value → H} {W : World} {base : Nat} {spare : Nat → Bool} {held : Bool} {n : Nat} {cs : List Value} {y : DataW H × List MemPlace} (hl : cs.length = 2) (h : DataW.trod enc Tryz.prog W base spare held n 71 cs = some y) :
 ∃ x : S71, cs = [.float .f64 x.f0, .float .f64 x.f1] ∧ x.f0 < 2 ^ 64 ∧ x.f1 < 2 ^ 64 := by
 obtain ⟨y0, y1, m, hx, _, h0, h1⟩ := trod_struct2 Tryz.underlying71 h
 obtain ⟨c0, c1, rfl⟩ := two_of hl
 ·have h0' : DataW.trod enc Tryz.prog W base spare held m 69 [c0] = some y0 := by simpa [cellsF] using h0
  have h1' : DataW.trod enc Tryz.prog W base spare held m 69 [c1] = some y1 := by simpa [cellsF] using h1
  obtain ⟨b0, e0, -, w0⟩ := trod_f64 Tryz.underlying69 h0'
  obtain ⟨b1, e1, -, w1⟩ := trod_f64 Tryz.underlying69 h1'
  injection e0 with e0 _
  injection e1 with e1 _
  subst e0 e1
  exact ⟨⟨b0, b1⟩, rfl, w0, w1⟩
instance : Inhabited S71 := ⟨⟨0, 0⟩⟩
end Go.Proofs.YtaoichlepfiliaaGreatDoor.Pts
end
section
namespace Go.Proofs.YtaoichlepfiliaaGreatDoor.Pts
open Go.ChangeShapes Go.WideShapes Go.ChangeAt Go.RowKit
set_option maxRecDepth 100000 in
theorem door_met (os : Os) (args : Array Value) : laidMetH Tryz.prog [("math/bits.deBruijn32tab", Rows.laid_math_bits_deBruijn32tab)] ((World.doorLaid Tryz.prog 3000 os).forCall (fun _ _ => 0) ⟨#[], args, []⟩).memory :=
 laidMetH_of_parts3 (fuel := 8) (laidMet_of_run' 8 (by kernel_rfl) (by kernel_rfl)) (by kernel_rfl) (by kernel_rfl)
end Go.Proofs.YtaoichlepfiliaaGreatDoor.Pts
end
section
namespace Go.Proofs.YtaoichlepfiliaaGreatDoor.Pts
open Go.Deep Go.ChangeShapes Go.WideShapes Go.ChangeAt Go.RowKit Go.Joins Go.Proofs.YtaoichlepfiliaaGreatDoor.E Go.Proofs.YtaoichlepfiliaaGreatDoor.Kfl Go.Proofs.YtaoichlepfiliaaGreatDoor.Msh Go.Proofs.YtaoichlepfiliaaGreatDoorW.PrintWords Go.Proofs.YtaoichlepfiliaaGreatDoorW.PrintLast
section
variable {H : Type} {enc : TypeId × Value → H} {W : World} {base : Nat} {spare : Nat → Bool} {held : Bool}
theorem open_rows {α : Type} [Inhabited α] {d : Kd α} {ec : α → List Value} (F : Flat d ec) {ts e : TypeId} {ok : α → Prop} (hts : Tryz.prog.underlying ts = some (.slice e)) (hce : Tryz.prog.cellsOf e = d.sz)
 (hel : ∀ n cs y, cs.length = d.sz → DataW.trod enc Tryz.prog W base spare held n e cs = some y → ∃ x, cs = ec x ∧ ok x) {c0 : Value} {fuel : Nat} {y : DataW H × List MemPlace} (h : DataW.trod enc Tryz.prog W base spare held fuel ts [c0] = some y) :
 ∃ (A : Option Addr) (l : List α) (c : Nat), c0 = .slice A l.length c ∧ d.C W A l.length l ∧ l.length ≤ c ∧ ∀ x ∈ l, ok x := by
 rcases open_slice hts h with ⟨hcs, _⟩ | ⟨a, n, c, m, n', D, Pl, hcs, _, hl, hm, hmm, _, hx⟩
 ·have e : c0 = .slice none 0 0 := by simpa using hcs
  subst e
  exact ⟨none, [], 0, rfl, ⟨rfl, Nat.zero_le _, fun h => absurd h (Nat.lt_irrefl 0)⟩, Nat.le_refl _, fun x hx => by simp at hx⟩
 ·have e : c0 = .slice (some a) n c := by simpa using hcs
  subst e
  have hml : n ≤ m := by rw [hmm]; split <;> omega
  obtain ⟨G, hG⟩ := choose_lt (α := α) (n := n) (p := fun i x => (∀ k u, (ec x)[k]? = some u → W.cell? (a.add (i * d.sz + k)) = some u) ∧ ok x) (fun i hi => by
   obtain ⟨cs', h1, h2⟩ := hx i (by omega)
   rw [hce] at h1
   obtain ⟨_, hlen, hc⟩ := World.cells?_some h1
   obtain ⟨x, rfl, w0⟩ := hel _ _ _ hlen h2
   refine ⟨x, fun k u hk => ?_, w0⟩
   have hk2 : k < (ec x).length := (List.getElem?_eq_some_iff.mp hk).1
   have h3 := hc k (by rw [← F.len x]; exact hk2)
   rw [Deep.add_add] at h3
   rw [h3]
   exact hk)
  refine ⟨some a, (List.range n).map G, c, by simp, ⟨by simp, ?_, fun _ => ⟨a, rfl, fun j x hj => ?_⟩⟩, by simpa using hl, fun x hx => ?_⟩
  ·have : maxLen = 9223372036854775807 := rfl
   simp; omega
  ·have hj' : j < n := by
    have := (List.getElem?_eq_some_iff.mp hj).1
    simpa using this
   obtain rfl : G j = x := by simpa [hj'] using hj
   exact ⟨ec (G j), F.len _, (F.K _ _ _).mpr rfl, fun i u hi => (hG j hj').1 i u hi⟩
  ·obtain ⟨j, hj, rfl⟩ := List.mem_map.mp hx
   exact (hG j (List.mem_range.mp hj)).2
theorem trod_i64 {n : Nat} {t : TypeId} {c : Value} {y : DataW H × List MemPlace} (ht : Tryz.prog.underlying t = some (.int .i64)) (h : DataW.trod enc Tryz.prog W base spare held n t [c] = some y) : ∃ a, c = .int .i64 a ∧ W64 a := by
 obtain ⟨a, e, -, hw⟩ := DataW.trod_int ht h
 injection e with e _
 exact ⟨a, e, hw⟩
theorem three_of {cs : List Value} (h : cs.length = 3) : ∃ a b c, cs = [a, b, c] := by
 match cs, h with
 | [a, b, c], _ => exact ⟨a, b, c, rfl⟩
theorem tri_cells {n : Nat} {cs : List Value} {y : DataW H × List MemPlace} (hl : cs.length = 3) (h : DataW.trod enc Tryz.prog W base spare held n 53 cs = some y) : ∃ x : Tr, cs = cT x ∧ okT x := by
 obtain ⟨c0, c1, c2, rfl⟩ := three_of hl
 obtain ⟨y0, y1, y2, m, -, h0, h1, h2⟩ := trod_array3 Tryz.underlying53 (by kernel_rfl) h
 obtain ⟨a, rfl, wa⟩ := trod_i64 Tryz.underlying3 h0
 obtain ⟨b, rfl, wb⟩ := trod_i64 Tryz.underlying3 h1
 obtain ⟨c, rfl, wc⟩ := trod_i64 Tryz.underlying3 h2
 exact ⟨(a, b, c), rfl, wa, wb, wc⟩
theorem cellsI : Tryz.prog.cellsOf 3 = 1 := by kernel_rfl
set_option maxRecDepth 100000 in
theorem seg_cells {n : Nat} {cs : List Value} {y : DataW H × List MemPlace} (hl : cs.length = 3) (h : DataW.trod enc Tryz.prog W base spare held n 78 cs = some y) : ∃ x : Tr, cs = cT x ∧ okT x := by
 obtain ⟨c0, c1, c2, rfl⟩ := three_of hl
 obtain ⟨y0, y1, y2, m, -, -, h0, h1, h2⟩ := trod_struct3 Tryz.underlying78 h
 have h0' : DataW.trod enc Tryz.prog W base spare held m 3 [c0] = some y0 := by simpa [cellsI] using h0
 have h1' : DataW.trod enc Tryz.prog W base spare held m 3 [c1] = some y1 := by simpa [cellsI] using h1
 have h2' : DataW.trod enc Tryz.prog W base spare held m 3 [c2] = some y2 := by simpa [cellsI] using h2
 obtain ⟨a, rfl, wa⟩ := trod_i64 Tryz.underlying3 h0'
 obtain ⟨b, rfl, wb⟩ := trod_i64 Tryz.underlying3 h1'
 obtain ⟨c, rfl, wc⟩ := trod_i64 Tryz.underlying3 h2'
 exact ⟨(a, b, c), rfl, wa, wb, wc⟩
set_option maxRecDepth 100000 in
theorem open_given {v : Value} {d : DataW H} {p : List MemPlace} {r : Reach} {b0 : Nat} (hv : Value.okWide Tryz.prog W r b0 26 v) (h : DataW.Trod enc Tryz.prog W base spare held 26 v d p) :
 ∃ (AP : Option Addr) (l : List S71) (cP : Nat) (AT : Option Addr) (Ts : List Tr) (cT' : Nat) (AF : Option Addr) (Fs : List Tr) (cF : Nat), v = .agg #[.slice AP l.length cP, .slice AT Ts.length cT', .slice AF Fs.length cF] ∧ Kd.C k71 W AP l.length l ∧ l.length ≤ cP ∧ Adm.Wd l ∧ Kd.C kTr W AT Ts.length Ts ∧ Kd.C kTr W AF Fs.length Fs ∧ (∀ t ∈ Ts, okT t) ∧ ∀ t ∈ Fs, okT t := by
 obtain ⟨v0, v1, v2, y0, y1, y2, n, rfl, -, -, h0, h1, h2⟩ := open_agg3 Tryz.underlying26 (by kernel_rfl) (by kernel_rfl) hv h
 obtain ⟨AP, l, cP, rfl, hP, hcP, wP⟩ := open_rows (ok := fun x : S71 => x.f0 < 2 ^ 64 ∧ x.f1 < 2 ^ 64) flatP Tryz.underlying22 cellsPt (fun n cs y hl h => by
  obtain ⟨x, e, w0, w1⟩ := pt_cells hl h
  exact ⟨x, e, w0, w1⟩) h0
 obtain ⟨AT, Ts, cT', rfl, hT, -, wT⟩ := open_rows (ok := okT) flatT Tryz.underlying23 (by kernel_rfl) (fun n cs y hl h => tri_cells hl h) h1
 obtain ⟨AF, Fs, cF, rfl, hF, -, wF⟩ := open_rows (ok := okT) flatT Tryz.underlying24 (by kernel_rfl) (fun n cs y hl h => seg_cells hl h) h2
 exact ⟨AP, l, cP, AT, Ts, cT', AF, Fs, cF, rfl, hP, hcP, wP, hT, hF, wT, wF⟩
end
end Go.Proofs.YtaoichlepfiliaaGreatDoor.Pts
end
section
namespace Go.Proofs.YtaoichlepfiliaaGreatDoor.carveWhole
open Go.ChangeShapes Go.WideShapes Go.ChangeAt Go.RowKit Go.Joins
open Go.Proofs.YtaoichlepfiliaaGreatDoor.Pts
set_option maxRecDepth 100000 in
theorem lifted (os : Os) (started : os.Started) (H : Type) (enc : TypeId × Value → H) :
 ReturnsInHanded {} Tryz.checked os 4 .any (fun w args => (Rows.carveWholeSpec.pre enc Tryz.prog Tryz.f4 [] false w args ∧ laidMetH Tryz.prog [("math/bits.deBruijn32tab", Rows.laid_math_bits_deBruijn32tab)] w) ∧ sizedMet enc Tryz.prog Tryz.f4 (OpenSpec.ofChange Rows.carveWholeSpec) false w args) (Rows.carveWholeSpec.post enc Tryz.prog Tryz.f4 false true false false) := by
 refine returnsInHanded_of_change_and (C := Tryz.checked) (X := fun w _ => laidMetH Tryz.prog [("math/bits.deBruijn32tab", Rows.laid_math_bits_deBruijn32tab)] w) (fun _ _ _ hh h => h.of_heap hh) own started (by kernel_rfl) Tryz.func4
  (ChangeSpec.witness_shaped (enc := enc) (C := Tryz.checked) (os := os) (X := fun w _ => laidMetH Tryz.prog [("math/bits.deBruijn32tab", Rows.laid_math_bits_deBruijn32tab)] w) false (World.doorLaid Tryz.prog 3000 os) #[.agg #[.slice none 0 0, .slice none 0 0, .slice none 0 0]] 8 rfl (World.shaped_of_RefB (by kernel_rfl) (by kernel_rfl)) (by kernel_rfl) (by kernel_rfl) (by kernel_rfl) (door_met os _)) ?_
 intro W base args ds gs before hval0 hW hcnd hsz0 hL _
 have hsz : (DataW.weightsEach Tryz.prog (Tryz.f4.params.toList ++ Rows.carveWholeSpec.plain.varTypes Tryz.prog) (ds ++ gs)).all (· ≤ reachBytes) = true := hsz0
 have hval : ∀ (j : Nat) t v, Tryz.f4.params[j]? = some t → args[j]? = some v → Value.okWide Tryz.prog W .any base t v := hval0
 have hW' := hW
 obtain ⟨p, q, hA0, hV, rfl, hfz, hnd⟩ := hW
 have hA : DataW.TrodAll enc Tryz.prog W 0 (fun _ => true) true Tryz.f4.params.toList args.toList ds p := hA0
 rw [Tryz.params4] at hA hval hsz
 obtain ⟨v0, vs0, d0, ds0, p0, q0, hargs, rfl, rfl, h0, r0⟩ := trodAll_cons hA
 obtain ⟨rfl, rfl, rfl⟩ := trodAll_nil r0
 obtain rfl : args = #[v0] := by cases args; simp_all
 obtain ⟨rfl, rfl⟩ := trodVars_none hV
 have k0 := h0
 have lt0 : ∀ x ∈ p0, x.block < W.heap.size := by obtain ⟨m, hm⟩ := k0; exact DataW.trod_lt m _ _ _ hm
 obtain ⟨AP0, l0, cP0, AT0, Ts0, cT0, AF0, Fs0, cF0, rfl, hP0, hcP0, w0, hT0, hF0, wT0, wF0⟩ := open_given (hval 0 26 v0 rfl rfl) h0
 clear hA0 hval0 hsz0 hsz
 refine (Msh.carveWhole_run AP0 cP0 l0 AT0 cT0 Ts0 AF0 cF0 Fs0 W hP0 hcP0 hT0 hF0 w0 wT0 wF0).mono fun e W' ⟨he, bel⟩ => ?_
 subst he
 exact ⟨_, rfl, _, _, _, [], _, [], hW', trodAll_mk1 (shut_bool Tryz.underlying4 _), (trodAll_cons_mk (Below.trod laidOut (by kernel_rfl) (of_decide_eq_true (by kernel_rfl)) k0 bel lt0) trodAll_mk0), rfl, bel.frame _, fun h => by cases h⟩
theorem over : Rows.carveWholeRow.holds Tryz.pinned (OpenSpec.ofChange Rows.carveWholeSpec) :=
 OpenClaim.holds_of_wide 4 Tryz.f4 rfl rfl rfl rfl rfl rfl rfl ⟨rfl, rfl, rfl, rfl, rfl⟩ rfl rfl rfl rfl rfl fact3 Tryz.func4 fact1 fact4 fact2
  (fun os started H enc _ => lifted os started H enc)
theorem proved : Rows.CarveWholeSaid := over
end Go.Proofs.YtaoichlepfiliaaGreatDoor.carveWhole
namespace Go.Proofs.YtaoichlepfiliaaGreatDoor
theorem carveWhole_holds : Rows.CarveWholeSaid := carveWhole.proved
end Go.Proofs.YtaoichlepfiliaaGreatDoor
end
