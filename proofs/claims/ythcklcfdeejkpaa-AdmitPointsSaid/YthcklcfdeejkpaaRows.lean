/-
  No cell of these rows narrows 'for every input' (looked for: loops, veiled, ifaces, maps, wideKeys, modest, calm, conditions, laid).
  DERIVED. THE GIVEN ROWS OF THIS SEAT. 2 by the template 'for every input the law returns true; each argument reads behind the call as it read before'; 0 by the template 'total and deterministic' (their statements: YthcklcfdeejkpaaTotals.lean).
  GIVEN WITH THE SEED: the statements are not yours to turn. If you find one false, say at which input.
  Laid BY PROGRAM, IN A SANDBOX (cutbox-rows.mjs): the forced cells as the released guide's own fill.sh prints them over the translation 4e3834f9fffb13ec… (all of the seat's roots in one cut). By AI agents, Wed Nov 11 2026. No macro, syntax, notation, axiom, sorry.
-/
import Derived.Test.YthcklcfdeejkpaaChecked
import GoSem.Claim
import GoSem.ClaimJoined
import GoSem.ClaimMapViews
import Derived.JoinedTies
import Derived.KernelRfl
namespace Go.Proofs.Ythcklcfdeejkpaa
/- THE CELL 'sum', in the pinned program and in every row, IS THE sha256 OF THE DUMP (.gsa) THAT YthcklcfdeejkpaaProg.lean LOADS. Nothing in Lean hashes anything: it is a label: what it is worth is what the hold of that sum in a sandbox is worth. -/
noncomputable def Try.pinned : Pinned := { name := "ythcklcfdeejkpaa", sum := "4e3834f9fffb13ec7d29c2e0002f7bff060dc7c1c263e9d167bd9dc5184e1500", checked := Try.checked }
namespace Rows
def none {H : Type} : Left H := { results := [], args := [] }

/-- 'trivetlaw23.GrowOrder': WHATEVER THE INPUT: true; the input reads as it did. -/
def growOrderSpec : ChangeSpec := { name := "growOrder", fn := fun _ => fun
  | [d1, d2] => { results := [.lit (.bool true)], args := [d1, d2] }
  | _ => none }
def growOrderRow : OpenClaim := { program := "ythcklcfdeejkpaa", sum := "4e3834f9fffb13ec7d29c2e0002f7bff060dc7c1c263e9d167bd9dc5184e1500", func := "trivet/trivetlaw23.GrowOrder", spec := "growOrder", unfollowed := true, recurses := true, apart := false }
def GrowOrderSaid : Prop := growOrderRow.holds Try.pinned (OpenSpec.ofChange growOrderSpec)

/-- ITS FALSE NEIGHBOUR: 'it returns false'. Refute it at one input. -/
def growOrderWrong : ChangeSpec := { name := "growOrder", fn := fun _ => fun
  | [d1, d2] => { results := [.lit (.bool false)], args := [d1, d2] }
  | _ => none }
def GrowOrderWrongFalsely : Prop := growOrderRow.holds Try.pinned (OpenSpec.ofChange growOrderWrong)

/-- 'trivetlaw07.AdmitPoints': WHATEVER THE INPUT: true; the input reads as it did. -/
def admitPointsSpec : ChangeSpec := { name := "admitPoints", fn := fun _ => fun
  | [d1, d2] => { results := [.lit (.bool true)], args := [d1, d2] }
  | _ => none }
def admitPointsRow : OpenClaim := { program := "ythcklcfdeejkpaa", sum := "4e3834f9fffb13ec7d29c2e0002f7bff060dc7c1c263e9d167bd9dc5184e1500", func := "trivet/trivetlaw07.AdmitPoints", spec := "admitPoints", inPlace := ["math.Float64bits", "math.Float64frombits", "math.archTrunc"], recurses := true, apart := false }
def AdmitPointsSaid : Prop := admitPointsRow.holds Try.pinned (OpenSpec.ofChange admitPointsSpec)

/-- ITS FALSE NEIGHBOUR: 'it returns false'. Refute it at one input. -/
def admitPointsWrong : ChangeSpec := { name := "admitPoints", fn := fun _ => fun
  | [d1, d2] => { results := [.lit (.bool false)], args := [d1, d2] }
  | _ => none }
def AdmitPointsWrongFalsely : Prop := admitPointsRow.holds Try.pinned (OpenSpec.ofChange admitPointsWrong)

/- THE SECOND FORM. 'bulk': how many values and letters a reading holds, each counted each time it is reached (what is shared counts as often as it is met; a slice's spare places count too). A statement '..UptoSaid' is the law's where the arguments, and the package variables that the reading takes, are together of bulk at most 1048576: NARROWER than '..Said'. Prove '..Said' where nothing that the law and all that it calls make is longer than what came in: it says more and counts as full. Else prove '..UptoSaid'. A law counts once. -/
mutual
def uptoBulk {H : Type} : DataW H → Nat
  | .lit (.string bytes) => bytes.length + 1
  | .lit _ => 1
  | .nil => 1
  | .ptr d => uptoBulk d + 1
  | .slice elems spare => uptoBulkAll elems + uptoBulkAll spare + 1
  | .agg parts => uptoBulkAll parts + 1
  | .iface _ d => uptoBulk d + 1
  | .map entries => uptoBulkEntries entries + 1
  | .held _ => 1
def uptoBulkAll {H : Type} : List (DataW H) → Nat
  | [] => 0
  | d :: r => uptoBulk d + uptoBulkAll r
def uptoBulkEntries {H : Type} : List (Lit × DataW H) → Nat
  | [] => 0
  | x :: r => uptoBulkEntry x + uptoBulkEntries r
def uptoBulkEntry {H : Type} : Lit × DataW H → Nat
  | (.string bytes, d) => bytes.length + uptoBulk d + 1
  | (_, d) => uptoBulk d + 1
 end
def uptoSmall : (H : Type) → List (DataW H) → Bool := fun _ ds => decide (uptoBulkAll ds ≤ 1048576)
def OpenSpec.upto (s : _root_.Go.ChangeSpec) : _root_.Go.OpenSpec := { _root_.Go.OpenSpec.ofChange s with cond := some uptoSmall }

/-- 'trivetlaw23.GrowOrder', WHERE WHAT IT READS IS OF BULK AT MOST 1048576: true; the input reads as it did. -/
def growOrderUptoRow : OpenClaim := { program := "ythcklcfdeejkpaa", sum := "4e3834f9fffb13ec7d29c2e0002f7bff060dc7c1c263e9d167bd9dc5184e1500", func := "trivet/trivetlaw23.GrowOrder", spec := "growOrder", unfollowed := true, recurses := true, apart := false, narrowed := true }
def GrowOrderUptoSaid : Prop := growOrderUptoRow.holds Try.pinned (OpenSpec.upto growOrderSpec)

/-- 'trivetlaw07.AdmitPoints', WHERE WHAT IT READS IS OF BULK AT MOST 1048576: true; the input reads as it did. -/
def admitPointsUptoRow : OpenClaim := { program := "ythcklcfdeejkpaa", sum := "4e3834f9fffb13ec7d29c2e0002f7bff060dc7c1c263e9d167bd9dc5184e1500", func := "trivet/trivetlaw07.AdmitPoints", spec := "admitPoints", inPlace := ["math.Float64bits", "math.Float64frombits", "math.archTrunc"], recurses := true, apart := false, narrowed := true }
def AdmitPointsUptoSaid : Prop := admitPointsUptoRow.holds Try.pinned (OpenSpec.upto admitPointsSpec)

end Rows
end Go.Proofs.Ythcklcfdeejkpaa
