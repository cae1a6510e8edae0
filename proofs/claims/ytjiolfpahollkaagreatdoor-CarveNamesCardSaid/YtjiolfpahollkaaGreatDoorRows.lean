/-
  NARROWER THAN 'FOR EVERY INPUT', by the rows' own cells (each row's printed sentence says how): CarveTakes: laid · CarveWhole: laid · CarveParts: laid · CarveNames: laid · CarveClosed: laid · RankBad: laid · RankLess: laid · RankAngles: laid · RankNames: laid · RankPressed: laid · RankOne: laid.
  DERIVED. THE GIVEN ROWS OF THIS SEAT. 11 by the template 'for every input the law returns true; each argument reads behind the call as it read before'; 0 by the template 'total and deterministic' (their statements: YtjiolfpahollkaaGreatDoorTotals.lean).
  GIVEN WITH THE SEED: the statements are not yours to turn. If you find one false, say at which input.
  Laid BY PROGRAM, IN A SANDBOX (cutbox-rows.mjs): the forced cells as the released guide's own fill.sh prints them over the translation 43013c6cf4c4205a… (all of the seat's roots in one cut). By AI agents, Wed Nov 11 2026. No macro, syntax, notation, axiom, sorry.
-/
import Derived.Test.YtjiolfpahollkaaGreatDoorChecked
import GoSem.Claim
import GoSem.ClaimJoined
import GoSem.ClaimMapViews
import Derived.JoinedTies
import Derived.KernelRfl
namespace Go.Proofs.YtjiolfpahollkaaGreatDoor
/- THE CELL 'sum', in the pinned program and in every row, IS THE sha256 OF THE DUMP (.gsa) THAT YtjiolfpahollkaaGreatDoorProg.lean LOADS. Nothing in Lean hashes anything: it is a label: what it is worth is what the hold of that sum in a sandbox is worth. -/
noncomputable def Tryz.pinned : Pinned := { name := "ytjiolfpahollkaagreatdoor", sum := "43013c6cf4c4205a8831e551ad2225a07f1f77ce68b2ad6b6f83d5687bea3c89", checked := Tryz.checked }
namespace Rows
def none {H : Type} : Left H := { results := [], args := [] }

/- WHAT THE LISTED PACKAGE-LEVEL VARIABLES READ AS WHEN THE CALL BEGINS. Each datum BY PROGRAM (the guide's laid-datum.mjs) off the statement by which the dump's own 'gosem.cut.vars' lays the variable. In a bare row this is a premise. The card (YtjiolfpahollkaaGreatDoorCards.lean) ties it to the program's text. -/
def laid_math_bits_deBruijn32tab {H : Type} : DataW H := .agg [.lit (.int .u8 0), .lit (.int .u8 1), .lit (.int .u8 28), .lit (.int .u8 2), .lit (.int .u8 29), .lit (.int .u8 14), .lit (.int .u8 24), .lit (.int .u8 3), .lit (.int .u8 30), .lit (.int .u8 22), .lit (.int .u8 20), .lit (.int .u8 15), .lit (.int .u8 25), .lit (.int .u8 17), .lit (.int .u8 4), .lit (.int .u8 8), .lit (.int .u8 31), .lit (.int .u8 27), .lit (.int .u8 13), .lit (.int .u8 23), .lit (.int .u8 21), .lit (.int .u8 19), .lit (.int .u8 16), .lit (.int .u8 7), .lit (.int .u8 26), .lit (.int .u8 12), .lit (.int .u8 18), .lit (.int .u8 6), .lit (.int .u8 11), .lit (.int .u8 5), .lit (.int .u8 10), .lit (.int .u8 9)]

/-- 'trivetlaw25.CarveTakes': WHATEVER THE INPUT: true; the input reads as it did. -/
def carveTakesSpec : ChangeSpec := { name := "carveTakes", fn := fun _ => fun
  | [d1, d2, d3] => { results := [.lit (.bool true)], args := [d1, d2, d3] }
  | _ => none }
def carveTakesRow : OpenClaim := { program := "ytjiolfpahollkaagreatdoor", sum := "43013c6cf4c4205a8831e551ad2225a07f1f77ce68b2ad6b6f83d5687bea3c89", func := "trivet/trivetlaw25.CarveTakes", spec := "carveTakes", inPlace := ["math.Float64bits", "math.Float64frombits", "math.archTrunc"], unfollowed := true, recurses := true, named := ["math/bits.deBruijn32tab"], plainKeys := false, apart := false, laid := [("math/bits.deBruijn32tab", laid_math_bits_deBruijn32tab)] }
def CarveTakesSaid : Prop := carveTakesRow.holds Tryz.pinned (OpenSpec.ofChange carveTakesSpec)

/-- ITS FALSE NEIGHBOUR: 'it returns false'. Refute it at one input. -/
def carveTakesWrong : ChangeSpec := { name := "carveTakes", fn := fun _ => fun
  | [d1, d2, d3] => { results := [.lit (.bool false)], args := [d1, d2, d3] }
  | _ => none }
def CarveTakesWrongFalsely : Prop := carveTakesRow.holds Tryz.pinned (OpenSpec.ofChange carveTakesWrong)

/-- 'trivetlaw25.CarveWhole': WHATEVER THE INPUT: true; the input reads as it did. -/
def carveWholeSpec : ChangeSpec := { name := "carveWhole", fn := fun _ => fun
  | [d] => { results := [.lit (.bool true)], args := [d] }
  | _ => none }
def carveWholeRow : OpenClaim := { program := "ytjiolfpahollkaagreatdoor", sum := "43013c6cf4c4205a8831e551ad2225a07f1f77ce68b2ad6b6f83d5687bea3c89", func := "trivet/trivetlaw25.CarveWhole", spec := "carveWhole", inPlace := ["math.Float64bits", "math.Float64frombits", "math.archTrunc"], unfollowed := true, recurses := true, named := ["math/bits.deBruijn32tab"], plainKeys := false, apart := false, laid := [("math/bits.deBruijn32tab", laid_math_bits_deBruijn32tab)] }
def CarveWholeSaid : Prop := carveWholeRow.holds Tryz.pinned (OpenSpec.ofChange carveWholeSpec)

/-- ITS FALSE NEIGHBOUR: 'it returns false'. Refute it at one input. -/
def carveWholeWrong : ChangeSpec := { name := "carveWhole", fn := fun _ => fun
  | [d] => { results := [.lit (.bool false)], args := [d] }
  | _ => none }
def CarveWholeWrongFalsely : Prop := carveWholeRow.holds Tryz.pinned (OpenSpec.ofChange carveWholeWrong)

/-- 'trivetlaw25.CarveParts': WHATEVER THE INPUT: true; the input reads as it did. -/
def carvePartsSpec : ChangeSpec := { name := "carveParts", fn := fun _ => fun
  | [d1, d2] => { results := [.lit (.bool true)], args := [d1, d2] }
  | _ => none }
def carvePartsRow : OpenClaim := { program := "ytjiolfpahollkaagreatdoor", sum := "43013c6cf4c4205a8831e551ad2225a07f1f77ce68b2ad6b6f83d5687bea3c89", func := "trivet/trivetlaw25.CarveParts", spec := "carveParts", inPlace := ["math.Float64bits", "math.Float64frombits", "math.archTrunc"], unfollowed := true, recurses := true, named := ["math/bits.deBruijn32tab"], plainKeys := false, apart := false, laid := [("math/bits.deBruijn32tab", laid_math_bits_deBruijn32tab)] }
def CarvePartsSaid : Prop := carvePartsRow.holds Tryz.pinned (OpenSpec.ofChange carvePartsSpec)

/-- ITS FALSE NEIGHBOUR: 'it returns false'. Refute it at one input. -/
def carvePartsWrong : ChangeSpec := { name := "carveParts", fn := fun _ => fun
  | [d1, d2] => { results := [.lit (.bool false)], args := [d1, d2] }
  | _ => none }
def CarvePartsWrongFalsely : Prop := carvePartsRow.holds Tryz.pinned (OpenSpec.ofChange carvePartsWrong)

/-- 'trivetlaw25.CarveNames': WHATEVER THE INPUT: true; the input reads as it did. -/
def carveNamesSpec : ChangeSpec := { name := "carveNames", fn := fun _ => fun
  | [] => { results := [.lit (.bool true)], args := [] }
  | _ => none }
def carveNamesRow : OpenClaim := { program := "ytjiolfpahollkaagreatdoor", sum := "43013c6cf4c4205a8831e551ad2225a07f1f77ce68b2ad6b6f83d5687bea3c89", func := "trivet/trivetlaw25.CarveNames", spec := "carveNames", inPlace := ["math.Float64bits", "math.Float64frombits", "math.archTrunc"], unfollowed := true, recurses := true, named := ["math/bits.deBruijn32tab"], plainKeys := false, apart := false, laid := [("math/bits.deBruijn32tab", laid_math_bits_deBruijn32tab)] }
def CarveNamesSaid : Prop := carveNamesRow.holds Tryz.pinned (OpenSpec.ofChange carveNamesSpec)

/-- ITS FALSE NEIGHBOUR: 'it returns false'. Refute it at one input. -/
def carveNamesWrong : ChangeSpec := { name := "carveNames", fn := fun _ => fun
  | [] => { results := [.lit (.bool false)], args := [] }
  | _ => none }
def CarveNamesWrongFalsely : Prop := carveNamesRow.holds Tryz.pinned (OpenSpec.ofChange carveNamesWrong)

/-- 'trivetlaw25.CarveClosed': WHATEVER THE INPUT: true; the input reads as it did. -/
def carveClosedSpec : ChangeSpec := { name := "carveClosed", fn := fun _ => fun
  | [d1, d2] => { results := [.lit (.bool true)], args := [d1, d2] }
  | _ => none }
def carveClosedRow : OpenClaim := { program := "ytjiolfpahollkaagreatdoor", sum := "43013c6cf4c4205a8831e551ad2225a07f1f77ce68b2ad6b6f83d5687bea3c89", func := "trivet/trivetlaw25.CarveClosed", spec := "carveClosed", inPlace := ["math.Float64bits", "math.Float64frombits", "math.archTrunc"], unfollowed := true, recurses := true, named := ["math/bits.deBruijn32tab"], plainKeys := false, apart := false, laid := [("math/bits.deBruijn32tab", laid_math_bits_deBruijn32tab)] }
def CarveClosedSaid : Prop := carveClosedRow.holds Tryz.pinned (OpenSpec.ofChange carveClosedSpec)

/-- ITS FALSE NEIGHBOUR: 'it returns false'. Refute it at one input. -/
def carveClosedWrong : ChangeSpec := { name := "carveClosed", fn := fun _ => fun
  | [d1, d2] => { results := [.lit (.bool false)], args := [d1, d2] }
  | _ => none }
def CarveClosedWrongFalsely : Prop := carveClosedRow.holds Tryz.pinned (OpenSpec.ofChange carveClosedWrong)

/-- 'trivetlaw26.RankBad': WHATEVER THE INPUT: true; the input reads as it did. -/
def rankBadSpec : ChangeSpec := { name := "rankBad", fn := fun _ => fun
  | [d1, d2, d3] => { results := [.lit (.bool true)], args := [d1, d2, d3] }
  | _ => none }
def rankBadRow : OpenClaim := { program := "ytjiolfpahollkaagreatdoor", sum := "43013c6cf4c4205a8831e551ad2225a07f1f77ce68b2ad6b6f83d5687bea3c89", func := "trivet/trivetlaw26.RankBad", spec := "rankBad", inPlace := ["math.Float64bits", "math.Float64frombits", "math.archTrunc"], unfollowed := true, recurses := true, named := ["math/bits.deBruijn32tab"], plainKeys := false, apart := false, laid := [("math/bits.deBruijn32tab", laid_math_bits_deBruijn32tab)] }
def RankBadSaid : Prop := rankBadRow.holds Tryz.pinned (OpenSpec.ofChange rankBadSpec)

/-- ITS FALSE NEIGHBOUR: 'it returns false'. Refute it at one input. -/
def rankBadWrong : ChangeSpec := { name := "rankBad", fn := fun _ => fun
  | [d1, d2, d3] => { results := [.lit (.bool false)], args := [d1, d2, d3] }
  | _ => none }
def RankBadWrongFalsely : Prop := rankBadRow.holds Tryz.pinned (OpenSpec.ofChange rankBadWrong)

/-- 'trivetlaw26.RankLess': WHATEVER THE INPUT: true; the input reads as it did. -/
def rankLessSpec : ChangeSpec := { name := "rankLess", fn := fun _ => fun
  | [d1, d2, d3, d4, d5] => { results := [.lit (.bool true)], args := [d1, d2, d3, d4, d5] }
  | _ => none }
def rankLessRow : OpenClaim := { program := "ytjiolfpahollkaagreatdoor", sum := "43013c6cf4c4205a8831e551ad2225a07f1f77ce68b2ad6b6f83d5687bea3c89", func := "trivet/trivetlaw26.RankLess", spec := "rankLess", inPlace := ["math.Float64bits", "math.Float64frombits", "math.archTrunc"], unfollowed := true, recurses := true, named := ["math/bits.deBruijn32tab"], plainKeys := false, apart := false, laid := [("math/bits.deBruijn32tab", laid_math_bits_deBruijn32tab)] }
def RankLessSaid : Prop := rankLessRow.holds Tryz.pinned (OpenSpec.ofChange rankLessSpec)

/-- ITS FALSE NEIGHBOUR: 'it returns false'. Refute it at one input. -/
def rankLessWrong : ChangeSpec := { name := "rankLess", fn := fun _ => fun
  | [d1, d2, d3, d4, d5] => { results := [.lit (.bool false)], args := [d1, d2, d3, d4, d5] }
  | _ => none }
def RankLessWrongFalsely : Prop := rankLessRow.holds Tryz.pinned (OpenSpec.ofChange rankLessWrong)

/-- 'trivetlaw26.RankAngles': WHATEVER THE INPUT: true; the input reads as it did. -/
def rankAnglesSpec : ChangeSpec := { name := "rankAngles", fn := fun _ => fun
  | [d1, d2] => { results := [.lit (.bool true)], args := [d1, d2] }
  | _ => none }
def rankAnglesRow : OpenClaim := { program := "ytjiolfpahollkaagreatdoor", sum := "43013c6cf4c4205a8831e551ad2225a07f1f77ce68b2ad6b6f83d5687bea3c89", func := "trivet/trivetlaw26.RankAngles", spec := "rankAngles", inPlace := ["math.Float64bits", "math.Float64frombits", "math.archTrunc"], unfollowed := true, recurses := true, named := ["math/bits.deBruijn32tab"], plainKeys := false, apart := false, laid := [("math/bits.deBruijn32tab", laid_math_bits_deBruijn32tab)] }
def RankAnglesSaid : Prop := rankAnglesRow.holds Tryz.pinned (OpenSpec.ofChange rankAnglesSpec)

/-- ITS FALSE NEIGHBOUR: 'it returns false'. Refute it at one input. -/
def rankAnglesWrong : ChangeSpec := { name := "rankAngles", fn := fun _ => fun
  | [d1, d2] => { results := [.lit (.bool false)], args := [d1, d2] }
  | _ => none }
def RankAnglesWrongFalsely : Prop := rankAnglesRow.holds Tryz.pinned (OpenSpec.ofChange rankAnglesWrong)

/-- 'trivetlaw26.RankNames': WHATEVER THE INPUT: true; the input reads as it did. -/
def rankNamesSpec : ChangeSpec := { name := "rankNames", fn := fun _ => fun
  | [] => { results := [.lit (.bool true)], args := [] }
  | _ => none }
def rankNamesRow : OpenClaim := { program := "ytjiolfpahollkaagreatdoor", sum := "43013c6cf4c4205a8831e551ad2225a07f1f77ce68b2ad6b6f83d5687bea3c89", func := "trivet/trivetlaw26.RankNames", spec := "rankNames", inPlace := ["math.Float64bits", "math.Float64frombits", "math.archTrunc"], unfollowed := true, recurses := true, named := ["math/bits.deBruijn32tab"], plainKeys := false, apart := false, laid := [("math/bits.deBruijn32tab", laid_math_bits_deBruijn32tab)] }
def RankNamesSaid : Prop := rankNamesRow.holds Tryz.pinned (OpenSpec.ofChange rankNamesSpec)

/-- ITS FALSE NEIGHBOUR: 'it returns false'. Refute it at one input. -/
def rankNamesWrong : ChangeSpec := { name := "rankNames", fn := fun _ => fun
  | [] => { results := [.lit (.bool false)], args := [] }
  | _ => none }
def RankNamesWrongFalsely : Prop := rankNamesRow.holds Tryz.pinned (OpenSpec.ofChange rankNamesWrong)

/-- 'trivetlaw26.RankPressed': WHATEVER THE INPUT: true; the input reads as it did. -/
def rankPressedSpec : ChangeSpec := { name := "rankPressed", fn := fun _ => fun
  | [d1, d2, d3, d4] => { results := [.lit (.bool true)], args := [d1, d2, d3, d4] }
  | _ => none }
def rankPressedRow : OpenClaim := { program := "ytjiolfpahollkaagreatdoor", sum := "43013c6cf4c4205a8831e551ad2225a07f1f77ce68b2ad6b6f83d5687bea3c89", func := "trivet/trivetlaw26.RankPressed", spec := "rankPressed", inPlace := ["math.Float64bits", "math.Float64frombits", "math.archTrunc"], unfollowed := true, recurses := true, named := ["math/bits.deBruijn32tab"], plainKeys := false, apart := false, laid := [("math/bits.deBruijn32tab", laid_math_bits_deBruijn32tab)] }
def RankPressedSaid : Prop := rankPressedRow.holds Tryz.pinned (OpenSpec.ofChange rankPressedSpec)

/-- ITS FALSE NEIGHBOUR: 'it returns false'. Refute it at one input. -/
def rankPressedWrong : ChangeSpec := { name := "rankPressed", fn := fun _ => fun
  | [d1, d2, d3, d4] => { results := [.lit (.bool false)], args := [d1, d2, d3, d4] }
  | _ => none }
def RankPressedWrongFalsely : Prop := rankPressedRow.holds Tryz.pinned (OpenSpec.ofChange rankPressedWrong)

/-- 'trivetlaw26.RankOne': WHATEVER THE INPUT: true; the input reads as it did. -/
def rankOneSpec : ChangeSpec := { name := "rankOne", fn := fun _ => fun
  | [d] => { results := [.lit (.bool true)], args := [d] }
  | _ => none }
def rankOneRow : OpenClaim := { program := "ytjiolfpahollkaagreatdoor", sum := "43013c6cf4c4205a8831e551ad2225a07f1f77ce68b2ad6b6f83d5687bea3c89", func := "trivet/trivetlaw26.RankOne", spec := "rankOne", inPlace := ["math.Float64bits", "math.Float64frombits", "math.archTrunc"], unfollowed := true, recurses := true, named := ["math/bits.deBruijn32tab"], plainKeys := false, apart := false, laid := [("math/bits.deBruijn32tab", laid_math_bits_deBruijn32tab)] }
def RankOneSaid : Prop := rankOneRow.holds Tryz.pinned (OpenSpec.ofChange rankOneSpec)

/-- ITS FALSE NEIGHBOUR: 'it returns false'. Refute it at one input. -/
def rankOneWrong : ChangeSpec := { name := "rankOne", fn := fun _ => fun
  | [d] => { results := [.lit (.bool false)], args := [d] }
  | _ => none }
def RankOneWrongFalsely : Prop := rankOneRow.holds Tryz.pinned (OpenSpec.ofChange rankOneWrong)

/- THE SECOND FORM. 'bulk': how many values and letters a reading holds, each counted each time it is reached (what is shared counts as often as it is met; a slice's spare places count too). A statement '..UptoSaid' is the law's where the arguments, and the package variables that the reading takes, are together of bulk at most 1048576: NARROWER than '..Said'. Prove '..Said' where nothing that the law and all that it calls make is longer than what came in: it says more and counts as full. Else prove '..UptoSaid'. A law counts once. -/
mutual
def uptoBulk {H : Type} : DataW H → Nat
  | .lit (.string bytes) => bytes.length + 1
  | .lit _ => 1
  | .nil => 1
  | .ptr d => uptoBulk d + 1
  | .slice elems spare => uptoBulkAll elems + uptoBulkAll spare + 1
  | .agg parts => uptoBulkAll parts + 1
  | .iface _ d => uptoBulk d + 1
  | .map entries => uptoBulkEntries entries + 1
  | .held _ => 1
def uptoBulkAll {H : Type} : List (DataW H) → Nat
  | [] => 0
  | d :: r => uptoBulk d + uptoBulkAll r
def uptoBulkEntries {H : Type} : List (Lit × DataW H) → Nat
  | [] => 0
  | x :: r => uptoBulkEntry x + uptoBulkEntries r
def uptoBulkEntry {H : Type} : Lit × DataW H → Nat
  | (.string bytes, d) => bytes.length + uptoBulk d + 1
  | (_, d) => uptoBulk d + 1
 end
def uptoSmall : (H : Type) → List (DataW H) → Bool := fun _ ds => decide (uptoBulkAll ds ≤ 1048576)
def OpenSpec.upto (s : _root_.Go.ChangeSpec) : _root_.Go.OpenSpec := { _root_.Go.OpenSpec.ofChange s with cond := some uptoSmall }

/-- 'trivetlaw25.CarveTakes', WHERE WHAT IT READS IS OF BULK AT MOST 1048576: true; the input reads as it did. -/
def carveTakesUptoRow : OpenClaim := { program := "ytjiolfpahollkaagreatdoor", sum := "43013c6cf4c4205a8831e551ad2225a07f1f77ce68b2ad6b6f83d5687bea3c89", func := "trivet/trivetlaw25.CarveTakes", spec := "carveTakes", inPlace := ["math.Float64bits", "math.Float64frombits", "math.archTrunc"], unfollowed := true, recurses := true, named := ["math/bits.deBruijn32tab"], plainKeys := false, apart := false, laid := [("math/bits.deBruijn32tab", laid_math_bits_deBruijn32tab)], narrowed := true }
def CarveTakesUptoSaid : Prop := carveTakesUptoRow.holds Tryz.pinned (OpenSpec.upto carveTakesSpec)

/-- 'trivetlaw25.CarveWhole', WHERE WHAT IT READS IS OF BULK AT MOST 1048576: true; the input reads as it did. -/
def carveWholeUptoRow : OpenClaim := { program := "ytjiolfpahollkaagreatdoor", sum := "43013c6cf4c4205a8831e551ad2225a07f1f77ce68b2ad6b6f83d5687bea3c89", func := "trivet/trivetlaw25.CarveWhole", spec := "carveWhole", inPlace := ["math.Float64bits", "math.Float64frombits", "math.archTrunc"], unfollowed := true, recurses := true, named := ["math/bits.deBruijn32tab"], plainKeys := false, apart := false, laid := [("math/bits.deBruijn32tab", laid_math_bits_deBruijn32tab)], narrowed := true }
def CarveWholeUptoSaid : Prop := carveWholeUptoRow.holds Tryz.pinned (OpenSpec.upto carveWholeSpec)

/-- 'trivetlaw25.CarveParts', WHERE WHAT IT READS IS OF BULK AT MOST 1048576: true; the input reads as it did. -/
def carvePartsUptoRow : OpenClaim := { program := "ytjiolfpahollkaagreatdoor", sum := "43013c6cf4c4205a8831e551ad2225a07f1f77ce68b2ad6b6f83d5687bea3c89", func := "trivet/trivetlaw25.CarveParts", spec := "carveParts", inPlace := ["math.Float64bits", "math.Float64frombits", "math.archTrunc"], unfollowed := true, recurses := true, named := ["math/bits.deBruijn32tab"], plainKeys := false, apart := false, laid := [("math/bits.deBruijn32tab", laid_math_bits_deBruijn32tab)], narrowed := true }
def CarvePartsUptoSaid : Prop := carvePartsUptoRow.holds Tryz.pinned (OpenSpec.upto carvePartsSpec)

/-- 'trivetlaw25.CarveNames', WHERE WHAT IT READS IS OF BULK AT MOST 1048576: true; the input reads as it did. -/
def carveNamesUptoRow : OpenClaim := { program := "ytjiolfpahollkaagreatdoor", sum := "43013c6cf4c4205a8831e551ad2225a07f1f77ce68b2ad6b6f83d5687bea3c89", func := "trivet/trivetlaw25.CarveNames", spec := "carveNames", inPlace := ["math.Float64bits", "math.Float64frombits", "math.archTrunc"], unfollowed := true, recurses := true, named := ["math/bits.deBruijn32tab"], plainKeys := false, apart := false, laid := [("math/bits.deBruijn32tab", laid_math_bits_deBruijn32tab)], narrowed := true }
def CarveNamesUptoSaid : Prop := carveNamesUptoRow.holds Tryz.pinned (OpenSpec.upto carveNamesSpec)

/-- 'trivetlaw25.CarveClosed', WHERE WHAT IT READS IS OF BULK AT MOST 1048576: true; the input reads as it did. -/
def carveClosedUptoRow : OpenClaim := { program := "ytjiolfpahollkaagreatdoor", sum := "43013c6cf4c4205a8831e551ad2225a07f1f77ce68b2ad6b6f83d5687bea3c89", func := "trivet/trivetlaw25.CarveClosed", spec := "carveClosed", inPlace := ["math.Float64bits", "math.Float64frombits", "math.archTrunc"], unfollowed := true, recurses := true, named := ["math/bits.deBruijn32tab"], plainKeys := false, apart := false, laid := [("math/bits.deBruijn32tab", laid_math_bits_deBruijn32tab)], narrowed := true }
def CarveClosedUptoSaid : Prop := carveClosedUptoRow.holds Tryz.pinned (OpenSpec.upto carveClosedSpec)

/-- 'trivetlaw26.RankBad', WHERE WHAT IT READS IS OF BULK AT MOST 1048576: true; the input reads as it did. -/
def rankBadUptoRow : OpenClaim := { program := "ytjiolfpahollkaagreatdoor", sum := "43013c6cf4c4205a8831e551ad2225a07f1f77ce68b2ad6b6f83d5687bea3c89", func := "trivet/trivetlaw26.RankBad", spec := "rankBad", inPlace := ["math.Float64bits", "math.Float64frombits", "math.archTrunc"], unfollowed := true, recurses := true, named := ["math/bits.deBruijn32tab"], plainKeys := false, apart := false, laid := [("math/bits.deBruijn32tab", laid_math_bits_deBruijn32tab)], narrowed := true }
def RankBadUptoSaid : Prop := rankBadUptoRow.holds Tryz.pinned (OpenSpec.upto rankBadSpec)

/-- 'trivetlaw26.RankLess', WHERE WHAT IT READS IS OF BULK AT MOST 1048576: true; the input reads as it did. -/
def rankLessUptoRow : OpenClaim := { program := "ytjiolfpahollkaagreatdoor", sum := "43013c6cf4c4205a8831e551ad2225a07f1f77ce68b2ad6b6f83d5687bea3c89", func := "trivet/trivetlaw26.RankLess", spec := "rankLess", inPlace := ["math.Float64bits", "math.Float64frombits", "math.archTrunc"], unfollowed := true, recurses := true, named := ["math/bits.deBruijn32tab"], plainKeys := false, apart := false, laid := [("math/bits.deBruijn32tab", laid_math_bits_deBruijn32tab)], narrowed := true }
def RankLessUptoSaid : Prop := rankLessUptoRow.holds Tryz.pinned (OpenSpec.upto rankLessSpec)

/-- 'trivetlaw26.RankAngles', WHERE WHAT IT READS IS OF BULK AT MOST 1048576: true; the input reads as it did. -/
def rankAnglesUptoRow : OpenClaim := { program := "ytjiolfpahollkaagreatdoor", sum := "43013c6cf4c4205a8831e551ad2225a07f1f77ce68b2ad6b6f83d5687bea3c89", func := "trivet/trivetlaw26.RankAngles", spec := "rankAngles", inPlace := ["math.Float64bits", "math.Float64frombits", "math.archTrunc"], unfollowed := true, recurses := true, named := ["math/bits.deBruijn32tab"], plainKeys := false, apart := false, laid := [("math/bits.deBruijn32tab", laid_math_bits_deBruijn32tab)], narrowed := true }
def RankAnglesUptoSaid : Prop := rankAnglesUptoRow.holds Tryz.pinned (OpenSpec.upto rankAnglesSpec)

/-- 'trivetlaw26.RankNames', WHERE WHAT IT READS IS OF BULK AT MOST 1048576: true; the input reads as it did. -/
def rankNamesUptoRow : OpenClaim := { program := "ytjiolfpahollkaagreatdoor", sum := "43013c6cf4c4205a8831e551ad2225a07f1f77ce68b2ad6b6f83d5687bea3c89", func := "trivet/trivetlaw26.RankNames", spec := "rankNames", inPlace := ["math.Float64bits", "math.Float64frombits", "math.archTrunc"], unfollowed := true, recurses := true, named := ["math/bits.deBruijn32tab"], plainKeys := false, apart := false, laid := [("math/bits.deBruijn32tab", laid_math_bits_deBruijn32tab)], narrowed := true }
def RankNamesUptoSaid : Prop := rankNamesUptoRow.holds Tryz.pinned (OpenSpec.upto rankNamesSpec)

/-- 'trivetlaw26.RankPressed', WHERE WHAT IT READS IS OF BULK AT MOST 1048576: true; the input reads as it did. -/
def rankPressedUptoRow : OpenClaim := { program := "ytjiolfpahollkaagreatdoor", sum := "43013c6cf4c4205a8831e551ad2225a07f1f77ce68b2ad6b6f83d5687bea3c89", func := "trivet/trivetlaw26.RankPressed", spec := "rankPressed", inPlace := ["math.Float64bits", "math.Float64frombits", "math.archTrunc"], unfollowed := true, recurses := true, named := ["math/bits.deBruijn32tab"], plainKeys := false, apart := false, laid := [("math/bits.deBruijn32tab", laid_math_bits_deBruijn32tab)], narrowed := true }
def RankPressedUptoSaid : Prop := rankPressedUptoRow.holds Tryz.pinned (OpenSpec.upto rankPressedSpec)

/-- 'trivetlaw26.RankOne', WHERE WHAT IT READS IS OF BULK AT MOST 1048576: true; the input reads as it did. -/
def rankOneUptoRow : OpenClaim := { program := "ytjiolfpahollkaagreatdoor", sum := "43013c6cf4c4205a8831e551ad2225a07f1f77ce68b2ad6b6f83d5687bea3c89", func := "trivet/trivetlaw26.RankOne", spec := "rankOne", inPlace := ["math.Float64bits", "math.Float64frombits", "math.archTrunc"], unfollowed := true, recurses := true, named := ["math/bits.deBruijn32tab"], plainKeys := false, apart := false, laid := [("math/bits.deBruijn32tab", laid_math_bits_deBruijn32tab)], narrowed := true }
def RankOneUptoSaid : Prop := rankOneUptoRow.holds Tryz.pinned (OpenSpec.upto rankOneSpec)

end Rows
end Go.Proofs.YtjiolfpahollkaaGreatDoor
