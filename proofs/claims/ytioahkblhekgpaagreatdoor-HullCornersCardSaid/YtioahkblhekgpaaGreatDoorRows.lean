/-
  NARROWER THAN 'FOR EVERY INPUT', by the rows' own cells (each row's printed sentence says how): AdmitLists: laid · AdmitFlat: laid · AdmitOrder: laid · AdmitTurned: laid · AdmitNames: laid · HullCorners: laid · HullPlaces: laid · HullHolds: laid · HullCounts: laid.
  DERIVED. THE GIVEN ROWS OF THIS SEAT. 9 by the template 'for every input the law returns true; each argument reads behind the call as it read before'; 0 by the template 'total and deterministic' (their statements: YtioahkblhekgpaaGreatDoorTotals.lean).
  GIVEN WITH THE SEED: the statements are not yours to turn. If you find one false, say at which input.
  Laid BY PROGRAM, IN A SANDBOX (cutbox-rows.mjs): the forced cells as the released guide's own fill.sh prints them over the translation 81dd72eb705f1f69… (all of the seat's roots in one cut). By AI agents, Wed Nov 11 2026. No macro, syntax, notation, axiom, sorry.
-/
import Derived.Test.YtioahkblhekgpaaGreatDoorChecked
import GoSem.Claim
import GoSem.ClaimJoined
import GoSem.ClaimMapViews
import Derived.JoinedTies
import Derived.KernelRfl
namespace Go.Proofs.YtioahkblhekgpaaGreatDoor
/- THE CELL 'sum', in the pinned program and in every row, IS THE sha256 OF THE DUMP (.gsa) THAT YtioahkblhekgpaaGreatDoorProg.lean LOADS. Nothing in Lean hashes anything: it is a label: what it is worth is what the hold of that sum in a sandbox is worth. -/
noncomputable def Tryz.pinned : Pinned := { name := "ytioahkblhekgpaagreatdoor", sum := "81dd72eb705f1f69700c5f76d2d900d2cf1294d2097301e29b1da5ab38dbc925", checked := Tryz.checked }
namespace Rows
def none {H : Type} : Left H := { results := [], args := [] }

/- WHAT THE LISTED PACKAGE-LEVEL VARIABLES READ AS WHEN THE CALL BEGINS. Each datum BY PROGRAM (the guide's laid-datum.mjs) off the statement by which the dump's own 'gosem.cut.vars' lays the variable. In a bare row this is a premise. The card (YtioahkblhekgpaaGreatDoorCards.lean) ties it to the program's text. -/
def laid_math_bits_deBruijn32tab {H : Type} : DataW H := .agg [.lit (.int .u8 0), .lit (.int .u8 1), .lit (.int .u8 28), .lit (.int .u8 2), .lit (.int .u8 29), .lit (.int .u8 14), .lit (.int .u8 24), .lit (.int .u8 3), .lit (.int .u8 30), .lit (.int .u8 22), .lit (.int .u8 20), .lit (.int .u8 15), .lit (.int .u8 25), .lit (.int .u8 17), .lit (.int .u8 4), .lit (.int .u8 8), .lit (.int .u8 31), .lit (.int .u8 27), .lit (.int .u8 13), .lit (.int .u8 23), .lit (.int .u8 21), .lit (.int .u8 19), .lit (.int .u8 16), .lit (.int .u8 7), .lit (.int .u8 26), .lit (.int .u8 12), .lit (.int .u8 18), .lit (.int .u8 6), .lit (.int .u8 11), .lit (.int .u8 5), .lit (.int .u8 10), .lit (.int .u8 9)]

/-- 'trivetlaw07.AdmitLists': WHATEVER THE INPUT: true; the input reads as it did. -/
def admitListsSpec : ChangeSpec := { name := "admitLists", fn := fun _ => fun
  | [d] => { results := [.lit (.bool true)], args := [d] }
  | _ => none }
def admitListsRow : OpenClaim := { program := "ytioahkblhekgpaagreatdoor", sum := "81dd72eb705f1f69700c5f76d2d900d2cf1294d2097301e29b1da5ab38dbc925", func := "trivet/trivetlaw07.AdmitLists", spec := "admitLists", inPlace := ["math.Float64bits", "math.Float64frombits", "math.archTrunc"], unfollowed := true, recurses := true, named := ["math/bits.deBruijn32tab"], plainKeys := false, apart := false, laid := [("math/bits.deBruijn32tab", laid_math_bits_deBruijn32tab)] }
def AdmitListsSaid : Prop := admitListsRow.holds Tryz.pinned (OpenSpec.ofChange admitListsSpec)

/-- ITS FALSE NEIGHBOUR: 'it returns false'. Refute it at one input. -/
def admitListsWrong : ChangeSpec := { name := "admitLists", fn := fun _ => fun
  | [d] => { results := [.lit (.bool false)], args := [d] }
  | _ => none }
def AdmitListsWrongFalsely : Prop := admitListsRow.holds Tryz.pinned (OpenSpec.ofChange admitListsWrong)

/-- 'trivetlaw07.AdmitFlat': WHATEVER THE INPUT: true; the input reads as it did. -/
def admitFlatSpec : ChangeSpec := { name := "admitFlat", fn := fun _ => fun
  | [d1, d2] => { results := [.lit (.bool true)], args := [d1, d2] }
  | _ => none }
def admitFlatRow : OpenClaim := { program := "ytioahkblhekgpaagreatdoor", sum := "81dd72eb705f1f69700c5f76d2d900d2cf1294d2097301e29b1da5ab38dbc925", func := "trivet/trivetlaw07.AdmitFlat", spec := "admitFlat", inPlace := ["math.Float64bits", "math.Float64frombits", "math.archTrunc"], unfollowed := true, recurses := true, named := ["math/bits.deBruijn32tab"], plainKeys := false, apart := false, laid := [("math/bits.deBruijn32tab", laid_math_bits_deBruijn32tab)] }
def AdmitFlatSaid : Prop := admitFlatRow.holds Tryz.pinned (OpenSpec.ofChange admitFlatSpec)

/-- ITS FALSE NEIGHBOUR: 'it returns false'. Refute it at one input. -/
def admitFlatWrong : ChangeSpec := { name := "admitFlat", fn := fun _ => fun
  | [d1, d2] => { results := [.lit (.bool false)], args := [d1, d2] }
  | _ => none }
def AdmitFlatWrongFalsely : Prop := admitFlatRow.holds Tryz.pinned (OpenSpec.ofChange admitFlatWrong)

/-- 'trivetlaw07.AdmitOrder': WHATEVER THE INPUT: true; the input reads as it did. -/
def admitOrderSpec : ChangeSpec := { name := "admitOrder", fn := fun _ => fun
  | [d] => { results := [.lit (.bool true)], args := [d] }
  | _ => none }
def admitOrderRow : OpenClaim := { program := "ytioahkblhekgpaagreatdoor", sum := "81dd72eb705f1f69700c5f76d2d900d2cf1294d2097301e29b1da5ab38dbc925", func := "trivet/trivetlaw07.AdmitOrder", spec := "admitOrder", inPlace := ["math.Float64bits", "math.Float64frombits", "math.archTrunc"], unfollowed := true, recurses := true, named := ["math/bits.deBruijn32tab"], plainKeys := false, apart := false, laid := [("math/bits.deBruijn32tab", laid_math_bits_deBruijn32tab)] }
def AdmitOrderSaid : Prop := admitOrderRow.holds Tryz.pinned (OpenSpec.ofChange admitOrderSpec)

/-- ITS FALSE NEIGHBOUR: 'it returns false'. Refute it at one input. -/
def admitOrderWrong : ChangeSpec := { name := "admitOrder", fn := fun _ => fun
  | [d] => { results := [.lit (.bool false)], args := [d] }
  | _ => none }
def AdmitOrderWrongFalsely : Prop := admitOrderRow.holds Tryz.pinned (OpenSpec.ofChange admitOrderWrong)

/-- 'trivetlaw07.AdmitTurned': WHATEVER THE INPUT: true; the input reads as it did. -/
def admitTurnedSpec : ChangeSpec := { name := "admitTurned", fn := fun _ => fun
  | [d1, d2] => { results := [.lit (.bool true)], args := [d1, d2] }
  | _ => none }
def admitTurnedRow : OpenClaim := { program := "ytioahkblhekgpaagreatdoor", sum := "81dd72eb705f1f69700c5f76d2d900d2cf1294d2097301e29b1da5ab38dbc925", func := "trivet/trivetlaw07.AdmitTurned", spec := "admitTurned", inPlace := ["math.Float64bits", "math.Float64frombits", "math.archTrunc"], unfollowed := true, recurses := true, named := ["math/bits.deBruijn32tab"], plainKeys := false, apart := false, laid := [("math/bits.deBruijn32tab", laid_math_bits_deBruijn32tab)] }
def AdmitTurnedSaid : Prop := admitTurnedRow.holds Tryz.pinned (OpenSpec.ofChange admitTurnedSpec)

/-- ITS FALSE NEIGHBOUR: 'it returns false'. Refute it at one input. -/
def admitTurnedWrong : ChangeSpec := { name := "admitTurned", fn := fun _ => fun
  | [d1, d2] => { results := [.lit (.bool false)], args := [d1, d2] }
  | _ => none }
def AdmitTurnedWrongFalsely : Prop := admitTurnedRow.holds Tryz.pinned (OpenSpec.ofChange admitTurnedWrong)

/-- 'trivetlaw07.AdmitNames': WHATEVER THE INPUT: true; the input reads as it did. -/
def admitNamesSpec : ChangeSpec := { name := "admitNames", fn := fun _ => fun
  | [] => { results := [.lit (.bool true)], args := [] }
  | _ => none }
def admitNamesRow : OpenClaim := { program := "ytioahkblhekgpaagreatdoor", sum := "81dd72eb705f1f69700c5f76d2d900d2cf1294d2097301e29b1da5ab38dbc925", func := "trivet/trivetlaw07.AdmitNames", spec := "admitNames", inPlace := ["math.Float64bits", "math.Float64frombits", "math.archTrunc"], unfollowed := true, recurses := true, named := ["math/bits.deBruijn32tab"], plainKeys := false, apart := false, laid := [("math/bits.deBruijn32tab", laid_math_bits_deBruijn32tab)] }
def AdmitNamesSaid : Prop := admitNamesRow.holds Tryz.pinned (OpenSpec.ofChange admitNamesSpec)

/-- ITS FALSE NEIGHBOUR: 'it returns false'. Refute it at one input. -/
def admitNamesWrong : ChangeSpec := { name := "admitNames", fn := fun _ => fun
  | [] => { results := [.lit (.bool false)], args := [] }
  | _ => none }
def AdmitNamesWrongFalsely : Prop := admitNamesRow.holds Tryz.pinned (OpenSpec.ofChange admitNamesWrong)

/-- 'trivetlaw20.HullCorners': WHATEVER THE INPUT: true; the input reads as it did. -/
def hullCornersSpec : ChangeSpec := { name := "hullCorners", fn := fun _ => fun
  | [d] => { results := [.lit (.bool true)], args := [d] }
  | _ => none }
def hullCornersRow : OpenClaim := { program := "ytioahkblhekgpaagreatdoor", sum := "81dd72eb705f1f69700c5f76d2d900d2cf1294d2097301e29b1da5ab38dbc925", func := "trivet/trivetlaw20.HullCorners", spec := "hullCorners", inPlace := ["math.Float64bits", "math.Float64frombits", "math.archTrunc"], unfollowed := true, recurses := true, named := ["math/bits.deBruijn32tab"], plainKeys := false, apart := false, laid := [("math/bits.deBruijn32tab", laid_math_bits_deBruijn32tab)] }
def HullCornersSaid : Prop := hullCornersRow.holds Tryz.pinned (OpenSpec.ofChange hullCornersSpec)

/-- ITS FALSE NEIGHBOUR: 'it returns false'. Refute it at one input. -/
def hullCornersWrong : ChangeSpec := { name := "hullCorners", fn := fun _ => fun
  | [d] => { results := [.lit (.bool false)], args := [d] }
  | _ => none }
def HullCornersWrongFalsely : Prop := hullCornersRow.holds Tryz.pinned (OpenSpec.ofChange hullCornersWrong)

/-- 'trivetlaw20.HullPlaces': WHATEVER THE INPUT: true; the input reads as it did. -/
def hullPlacesSpec : ChangeSpec := { name := "hullPlaces", fn := fun _ => fun
  | [d1, d2] => { results := [.lit (.bool true)], args := [d1, d2] }
  | _ => none }
def hullPlacesRow : OpenClaim := { program := "ytioahkblhekgpaagreatdoor", sum := "81dd72eb705f1f69700c5f76d2d900d2cf1294d2097301e29b1da5ab38dbc925", func := "trivet/trivetlaw20.HullPlaces", spec := "hullPlaces", inPlace := ["math.Float64bits", "math.Float64frombits", "math.archTrunc"], unfollowed := true, recurses := true, named := ["math/bits.deBruijn32tab"], plainKeys := false, apart := false, laid := [("math/bits.deBruijn32tab", laid_math_bits_deBruijn32tab)] }
def HullPlacesSaid : Prop := hullPlacesRow.holds Tryz.pinned (OpenSpec.ofChange hullPlacesSpec)

/-- ITS FALSE NEIGHBOUR: 'it returns false'. Refute it at one input. -/
def hullPlacesWrong : ChangeSpec := { name := "hullPlaces", fn := fun _ => fun
  | [d1, d2] => { results := [.lit (.bool false)], args := [d1, d2] }
  | _ => none }
def HullPlacesWrongFalsely : Prop := hullPlacesRow.holds Tryz.pinned (OpenSpec.ofChange hullPlacesWrong)

/-- 'trivetlaw20.HullHolds': WHATEVER THE INPUT: true; the input reads as it did. -/
def hullHoldsSpec : ChangeSpec := { name := "hullHolds", fn := fun _ => fun
  | [d] => { results := [.lit (.bool true)], args := [d] }
  | _ => none }
def hullHoldsRow : OpenClaim := { program := "ytioahkblhekgpaagreatdoor", sum := "81dd72eb705f1f69700c5f76d2d900d2cf1294d2097301e29b1da5ab38dbc925", func := "trivet/trivetlaw20.HullHolds", spec := "hullHolds", inPlace := ["math.Float64bits", "math.Float64frombits", "math.archTrunc"], unfollowed := true, recurses := true, named := ["math/bits.deBruijn32tab"], plainKeys := false, apart := false, laid := [("math/bits.deBruijn32tab", laid_math_bits_deBruijn32tab)] }
def HullHoldsSaid : Prop := hullHoldsRow.holds Tryz.pinned (OpenSpec.ofChange hullHoldsSpec)

/-- ITS FALSE NEIGHBOUR: 'it returns false'. Refute it at one input. -/
def hullHoldsWrong : ChangeSpec := { name := "hullHolds", fn := fun _ => fun
  | [d] => { results := [.lit (.bool false)], args := [d] }
  | _ => none }
def HullHoldsWrongFalsely : Prop := hullHoldsRow.holds Tryz.pinned (OpenSpec.ofChange hullHoldsWrong)

/-- 'trivetlaw20.HullCounts': WHATEVER THE INPUT: true; the input reads as it did. -/
def hullCountsSpec : ChangeSpec := { name := "hullCounts", fn := fun _ => fun
  | [d1, d2] => { results := [.lit (.bool true)], args := [d1, d2] }
  | _ => none }
def hullCountsRow : OpenClaim := { program := "ytioahkblhekgpaagreatdoor", sum := "81dd72eb705f1f69700c5f76d2d900d2cf1294d2097301e29b1da5ab38dbc925", func := "trivet/trivetlaw20.HullCounts", spec := "hullCounts", inPlace := ["math.Float64bits", "math.Float64frombits", "math.archTrunc"], unfollowed := true, recurses := true, named := ["math/bits.deBruijn32tab"], plainKeys := false, apart := false, laid := [("math/bits.deBruijn32tab", laid_math_bits_deBruijn32tab)] }
def HullCountsSaid : Prop := hullCountsRow.holds Tryz.pinned (OpenSpec.ofChange hullCountsSpec)

/-- ITS FALSE NEIGHBOUR: 'it returns false'. Refute it at one input. -/
def hullCountsWrong : ChangeSpec := { name := "hullCounts", fn := fun _ => fun
  | [d1, d2] => { results := [.lit (.bool false)], args := [d1, d2] }
  | _ => none }
def HullCountsWrongFalsely : Prop := hullCountsRow.holds Tryz.pinned (OpenSpec.ofChange hullCountsWrong)

/- THE SECOND FORM. 'bulk': how many values and letters a reading holds, each counted each time it is reached (what is shared counts as often as it is met; a slice's spare places count too). A statement '..UptoSaid' is the law's where the arguments, and the package variables that the reading takes, are together of bulk at most 1048576: NARROWER than '..Said'. Prove '..Said' where nothing that the law and all that it calls make is longer than what came in: it says more and counts as full. Else prove '..UptoSaid'. A law counts once. -/
mutual
def uptoBulk {H : Type} : DataW H → Nat
  | .lit (.string bytes) => bytes.length + 1
  | .lit _ => 1
  | .nil => 1
  | .ptr d => uptoBulk d + 1
  | .slice elems spare => uptoBulkAll elems + uptoBulkAll spare + 1
  | .agg parts => uptoBulkAll parts + 1
  | .iface _ d => uptoBulk d + 1
  | .map entries => uptoBulkEntries entries + 1
  | .held _ => 1
def uptoBulkAll {H : Type} : List (DataW H) → Nat
  | [] => 0
  | d :: r => uptoBulk d + uptoBulkAll r
def uptoBulkEntries {H : Type} : List (Lit × DataW H) → Nat
  | [] => 0
  | x :: r => uptoBulkEntry x + uptoBulkEntries r
def uptoBulkEntry {H : Type} : Lit × DataW H → Nat
  | (.string bytes, d) => bytes.length + uptoBulk d + 1
  | (_, d) => uptoBulk d + 1
 end
def uptoSmall : (H : Type) → List (DataW H) → Bool := fun _ ds => decide (uptoBulkAll ds ≤ 1048576)
def OpenSpec.upto (s : _root_.Go.ChangeSpec) : _root_.Go.OpenSpec := { _root_.Go.OpenSpec.ofChange s with cond := some uptoSmall }

/-- 'trivetlaw07.AdmitLists', WHERE WHAT IT READS IS OF BULK AT MOST 1048576: true; the input reads as it did. -/
def admitListsUptoRow : OpenClaim := { program := "ytioahkblhekgpaagreatdoor", sum := "81dd72eb705f1f69700c5f76d2d900d2cf1294d2097301e29b1da5ab38dbc925", func := "trivet/trivetlaw07.AdmitLists", spec := "admitLists", inPlace := ["math.Float64bits", "math.Float64frombits", "math.archTrunc"], unfollowed := true, recurses := true, named := ["math/bits.deBruijn32tab"], plainKeys := false, apart := false, laid := [("math/bits.deBruijn32tab", laid_math_bits_deBruijn32tab)], narrowed := true }
def AdmitListsUptoSaid : Prop := admitListsUptoRow.holds Tryz.pinned (OpenSpec.upto admitListsSpec)

/-- 'trivetlaw07.AdmitFlat', WHERE WHAT IT READS IS OF BULK AT MOST 1048576: true; the input reads as it did. -/
def admitFlatUptoRow : OpenClaim := { program := "ytioahkblhekgpaagreatdoor", sum := "81dd72eb705f1f69700c5f76d2d900d2cf1294d2097301e29b1da5ab38dbc925", func := "trivet/trivetlaw07.AdmitFlat", spec := "admitFlat", inPlace := ["math.Float64bits", "math.Float64frombits", "math.archTrunc"], unfollowed := true, recurses := true, named := ["math/bits.deBruijn32tab"], plainKeys := false, apart := false, laid := [("math/bits.deBruijn32tab", laid_math_bits_deBruijn32tab)], narrowed := true }
def AdmitFlatUptoSaid : Prop := admitFlatUptoRow.holds Tryz.pinned (OpenSpec.upto admitFlatSpec)

/-- 'trivetlaw07.AdmitOrder', WHERE WHAT IT READS IS OF BULK AT MOST 1048576: true; the input reads as it did. -/
def admitOrderUptoRow : OpenClaim := { program := "ytioahkblhekgpaagreatdoor", sum := "81dd72eb705f1f69700c5f76d2d900d2cf1294d2097301e29b1da5ab38dbc925", func := "trivet/trivetlaw07.AdmitOrder", spec := "admitOrder", inPlace := ["math.Float64bits", "math.Float64frombits", "math.archTrunc"], unfollowed := true, recurses := true, named := ["math/bits.deBruijn32tab"], plainKeys := false, apart := false, laid := [("math/bits.deBruijn32tab", laid_math_bits_deBruijn32tab)], narrowed := true }
def AdmitOrderUptoSaid : Prop := admitOrderUptoRow.holds Tryz.pinned (OpenSpec.upto admitOrderSpec)

/-- 'trivetlaw07.AdmitTurned', WHERE WHAT IT READS IS OF BULK AT MOST 1048576: true; the input reads as it did. -/
def admitTurnedUptoRow : OpenClaim := { program := "ytioahkblhekgpaagreatdoor", sum := "81dd72eb705f1f69700c5f76d2d900d2cf1294d2097301e29b1da5ab38dbc925", func := "trivet/trivetlaw07.AdmitTurned", spec := "admitTurned", inPlace := ["math.Float64bits", "math.Float64frombits", "math.archTrunc"], unfollowed := true, recurses := true, named := ["math/bits.deBruijn32tab"], plainKeys := false, apart := false, laid := [("math/bits.deBruijn32tab", laid_math_bits_deBruijn32tab)], narrowed := true }
def AdmitTurnedUptoSaid : Prop := admitTurnedUptoRow.holds Tryz.pinned (OpenSpec.upto admitTurnedSpec)

/-- 'trivetlaw07.AdmitNames', WHERE WHAT IT READS IS OF BULK AT MOST 1048576: true; the input reads as it did. -/
def admitNamesUptoRow : OpenClaim := { program := "ytioahkblhekgpaagreatdoor", sum := "81dd72eb705f1f69700c5f76d2d900d2cf1294d2097301e29b1da5ab38dbc925", func := "trivet/trivetlaw07.AdmitNames", spec := "admitNames", inPlace := ["math.Float64bits", "math.Float64frombits", "math.archTrunc"], unfollowed := true, recurses := true, named := ["math/bits.deBruijn32tab"], plainKeys := false, apart := false, laid := [("math/bits.deBruijn32tab", laid_math_bits_deBruijn32tab)], narrowed := true }
def AdmitNamesUptoSaid : Prop := admitNamesUptoRow.holds Tryz.pinned (OpenSpec.upto admitNamesSpec)

/-- 'trivetlaw20.HullCorners', WHERE WHAT IT READS IS OF BULK AT MOST 1048576: true; the input reads as it did. -/
def hullCornersUptoRow : OpenClaim := { program := "ytioahkblhekgpaagreatdoor", sum := "81dd72eb705f1f69700c5f76d2d900d2cf1294d2097301e29b1da5ab38dbc925", func := "trivet/trivetlaw20.HullCorners", spec := "hullCorners", inPlace := ["math.Float64bits", "math.Float64frombits", "math.archTrunc"], unfollowed := true, recurses := true, named := ["math/bits.deBruijn32tab"], plainKeys := false, apart := false, laid := [("math/bits.deBruijn32tab", laid_math_bits_deBruijn32tab)], narrowed := true }
def HullCornersUptoSaid : Prop := hullCornersUptoRow.holds Tryz.pinned (OpenSpec.upto hullCornersSpec)

/-- 'trivetlaw20.HullPlaces', WHERE WHAT IT READS IS OF BULK AT MOST 1048576: true; the input reads as it did. -/
def hullPlacesUptoRow : OpenClaim := { program := "ytioahkblhekgpaagreatdoor", sum := "81dd72eb705f1f69700c5f76d2d900d2cf1294d2097301e29b1da5ab38dbc925", func := "trivet/trivetlaw20.HullPlaces", spec := "hullPlaces", inPlace := ["math.Float64bits", "math.Float64frombits", "math.archTrunc"], unfollowed := true, recurses := true, named := ["math/bits.deBruijn32tab"], plainKeys := false, apart := false, laid := [("math/bits.deBruijn32tab", laid_math_bits_deBruijn32tab)], narrowed := true }
def HullPlacesUptoSaid : Prop := hullPlacesUptoRow.holds Tryz.pinned (OpenSpec.upto hullPlacesSpec)

/-- 'trivetlaw20.HullHolds', WHERE WHAT IT READS IS OF BULK AT MOST 1048576: true; the input reads as it did. -/
def hullHoldsUptoRow : OpenClaim := { program := "ytioahkblhekgpaagreatdoor", sum := "81dd72eb705f1f69700c5f76d2d900d2cf1294d2097301e29b1da5ab38dbc925", func := "trivet/trivetlaw20.HullHolds", spec := "hullHolds", inPlace := ["math.Float64bits", "math.Float64frombits", "math.archTrunc"], unfollowed := true, recurses := true, named := ["math/bits.deBruijn32tab"], plainKeys := false, apart := false, laid := [("math/bits.deBruijn32tab", laid_math_bits_deBruijn32tab)], narrowed := true }
def HullHoldsUptoSaid : Prop := hullHoldsUptoRow.holds Tryz.pinned (OpenSpec.upto hullHoldsSpec)

/-- 'trivetlaw20.HullCounts', WHERE WHAT IT READS IS OF BULK AT MOST 1048576: true; the input reads as it did. -/
def hullCountsUptoRow : OpenClaim := { program := "ytioahkblhekgpaagreatdoor", sum := "81dd72eb705f1f69700c5f76d2d900d2cf1294d2097301e29b1da5ab38dbc925", func := "trivet/trivetlaw20.HullCounts", spec := "hullCounts", inPlace := ["math.Float64bits", "math.Float64frombits", "math.archTrunc"], unfollowed := true, recurses := true, named := ["math/bits.deBruijn32tab"], plainKeys := false, apart := false, laid := [("math/bits.deBruijn32tab", laid_math_bits_deBruijn32tab)], narrowed := true }
def HullCountsUptoSaid : Prop := hullCountsUptoRow.holds Tryz.pinned (OpenSpec.upto hullCountsSpec)

end Rows
end Go.Proofs.YtioahkblhekgpaaGreatDoor
