/- trivetlaw07.AdmitPoints returns true for every input that its type allows, and its arguments read behind the call as ahead of it: the given row AdmitPointsSaid. No condition. -/
import Derived.Test.YthcklcfdeejkpaaRows
import Derived.Test.YthcklcfdeejkpaaM2
import Derived.Test.YthcklcfdeejkpaaPureAdmitPoints
import Derived.WalkKit
import Derived.ProofKit
import Derived.OpenShut
import Derived.ShutString
import Derived.ChangeOld
import Derived.Below
import Derived.SizedLaws
import Derived.Lib.SmallJoins
import Derived.Carry
import Derived.Laws.Cover2
namespace Go.Proofs.Ythcklcfdeejkpaa.admitPoints
open Go.ChangeShapes Go.WideShapes Go.ChangeAt Go.RowKit Go.Joins
set_option linter.unusedVariables false
theorem own : ownKnob Try.prog.godebug = none := by kernel_rfl
theorem laidOut : laidOutB Try.prog = true := by kernel_rfl
theorem cellsPt : Try.prog.cellsOf 29 = 2 := by kernel_rfl
theorem trod_f64 {H : Type} {enc : TypeId × Value → H} {P : Program} {w : World} {base : Nat} {spare : Nat → Bool} {held : Bool} {fuel : Nat} {t : TypeId} {cs : List Value} {x : DataW H × List MemPlace} (ht : P.underlying t = some (.float .f64)) (h : DataW.trod enc P w base spare held fuel t cs = some x) : ∃ b, cs = [.float .f64 b] ∧ x = (.lit (.float .f64 b), []) ∧ b < 2 ^ 64 := by
  cases fuel with
  | zero => simp [DataW.trod] at h
  | succ n =>
    unfold DataW.trod at h
    rw [ht] at h
    split at h <;> first | (simp_all; done) | skip
    rename_i k k' b hk
    cases hk
    split at h
    · rename_i hw
      obtain ⟨rfl, hw⟩ := hw
      injection h with h
      exact ⟨b, rfl, h.symm, by simpa [Lit.wf] using hw⟩
    · cases h
set_option maxRecDepth 100000 in
theorem lifted (os : Os) (started : os.Started) (H : Type) (enc : TypeId × Value → H) :
    ReturnsInHanded {} Try.checked os 4 .any (Rows.admitPointsSpec.pre6 enc Try.prog Try.f4 Rows.admitPointsRow.domain false) (Rows.admitPointsSpec.post enc Try.prog Try.f4 false true false false) := by
  refine returnsInHanded_of_change_sized (C := Try.checked) own started (by kernel_rfl) Try.func4
    (ChangeSpec.witness6 (enc := enc) (C := Try.checked) false ⟨#[], #[.agg #[.float .f64 0, .float .f64 0], .agg #[.float .f64 0, .float .f64 0]], []⟩ 8 (by kernel_rfl) (by kernel_rfl) (by kernel_rfl) (by kernel_rfl)) ?_
  intro W base args ds gs before hval0 hW hcnd hsz0 _
  have hsz : (DataW.weightsEach Try.prog (Try.f4.params.toList ++ Rows.admitPointsSpec.plain.varTypes Try.prog) (ds ++ gs)).all (· ≤ reachBytes) = true := hsz0
  have hval : ∀ (j : Nat) t v, Try.f4.params[j]? = some t → args[j]? = some v → Value.okWide Try.prog W .any base t v := hval0
  have hW' := hW
  obtain ⟨p, q, hA0, hV, rfl, hfz, hnd⟩ := hW
  have hA : DataW.TrodAll enc Try.prog W 0 (fun _ => true) true Try.f4.params.toList args.toList ds p := hA0
  rw [Try.params4] at hA hval hsz
  obtain ⟨v0, vs0, d0, ds0, p0, q0, hargs, rfl, rfl, h0, r0⟩ := trodAll_cons hA
  obtain ⟨v1, vs1, d1, ds1, p1, q1, rfl, rfl, rfl, h1, r1⟩ := trodAll_cons r0
  obtain ⟨rfl, rfl, rfl⟩ := trodAll_nil r1
  obtain rfl : args = #[v0, v1] := by cases args; simp_all
  obtain ⟨rfl, rfl⟩ := trodVars_none hV
  have k0 := h0
  have lt0 : ∀ x ∈ p0, x.block < W.heap.size := by obtain ⟨m, hm⟩ := k0; exact DataW.trod_lt m _ _ _ hm
  obtain ⟨c00, c01, y00, y01, m0, rfl, hd0, hp0, hy00, hy01⟩ := open_agg2 Try.underlying29 (by kernel_rfl) cellsPt (hval 0 29 v0 rfl rfl) h0
  obtain ⟨a00, e00, -, w00⟩ := trod_f64 Try.underlying27 hy00
  injection e00 with e00 _
  subst e00
  obtain ⟨a01, e01, -, w01⟩ := trod_f64 Try.underlying27 hy01
  injection e01 with e01 _
  subst e01
  have k1 := h1
  have lt1 : ∀ x ∈ p1, x.block < W.heap.size := by obtain ⟨m, hm⟩ := k1; exact DataW.trod_lt m _ _ _ hm
  obtain ⟨c10, c11, y10, y11, m1, rfl, hd1, hp1, hy10, hy11⟩ := open_agg2 Try.underlying29 (by kernel_rfl) cellsPt (hval 1 29 v1 rfl rfl) h1
  obtain ⟨a10, e10, -, w10⟩ := trod_f64 Try.underlying27 hy10
  injection e10 with e10 _
  subst e10
  obtain ⟨a11, e11, -, w11⟩ := trod_f64 Try.underlying27 hy11
  injection e11 with e11 _
  subst e11
  obtain ⟨k, hk⟩ := Pure.AdmitPoints a00 a01 a10 a11 w00 w01 w10 w11
  clear hA0 hval0 hsz0 hsz
  refine (M.trivetlaw07_AdmitPoints.calls k a00 a01 a10 a11 true W hk).mono fun e W' ⟨he, bel⟩ => ?_
  subst he
  exact ⟨_, rfl, _, _, _, [], _, [], hW', trodAll_mk1 (shut_bool Try.underlying4 _), (trodAll_cons_mk (Below.trod laidOut (by kernel_rfl) (of_decide_eq_true (by kernel_rfl)) k0 bel lt0) (trodAll_cons_mk (Below.trod laidOut (by kernel_rfl) (of_decide_eq_true (by kernel_rfl)) k1 bel lt1) trodAll_mk0)), rfl, bel.frame _, fun h => by cases h⟩
theorem over : Rows.admitPointsRow.holds Try.pinned (OpenSpec.ofChange Rows.admitPointsSpec) :=
  OpenClaim.holds_of_wide 4 Try.f4 rfl rfl rfl rfl rfl rfl rfl ⟨rfl, rfl, rfl, rfl, rfl⟩ rfl rfl rfl rfl rfl (by kernel_rfl) Try.func4 (by kernel_rfl)
    (of_decide_eq_true (by kernel_rfl)) (by unfold Func.isWrapper; first | (rw [if_pos (by decide +kernel)]; kernel_rfl) | (rw [if_neg (by decide +kernel)]; exact ⟨rfl, rfl⟩))
    (fun os started H enc _ => lifted os started H enc)
theorem proved : Rows.AdmitPointsSaid := over
end Go.Proofs.Ythcklcfdeejkpaa.admitPoints
namespace Go.Proofs.Ythcklcfdeejkpaa
/-- The row, under a short name, for the claim. -/
theorem admitPoints_holds : Rows.AdmitPointsSaid := admitPoints.proved
#print axioms admitPoints_holds
end Go.Proofs.Ythcklcfdeejkpaa
