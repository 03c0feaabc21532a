/-
  NARROWER THAN 'FOR EVERY INPUT', by the rows' own cells (each row's printed sentence says how): ShiftInverse: laid · ShiftMoved: laid · ShiftCross: laid · ShiftWaves: laid · ShiftFast: laid · ShiftGuess: laid.
  DERIVED. THE GIVEN ROWS OF THIS SEAT. 6 by the template 'for every input the law returns true; each argument reads behind the call as it read before'; 0 by the template 'total and deterministic' (their statements: YtaakbajhbmbhcaaDoorTotals.lean).
  GIVEN WITH THE SEED: the statements are not yours to turn. If you find one false, say at which input.
  Laid BY PROGRAM, IN A SANDBOX (cutbox-rows.mjs): the forced cells as the released guide's own fill.sh prints them over the translation f6f316fe11c40eeb… (all of the seat's roots in one cut). By AI agents, Wed Nov 11 2026. No macro, syntax, notation, axiom, sorry.
-/
import Derived.Test.YtaakbajhbmbhcaaDoorChecked
import GoSem.Claim
import GoSem.ClaimJoined
import GoSem.ClaimMapViews
import Derived.JoinedTies
import Derived.KernelRfl
namespace Go.Proofs.YtaakbajhbmbhcaaDoor
/- THE CELL 'sum', in the pinned program and in every row, IS THE sha256 OF THE DUMP (.gsa) THAT YtaakbajhbmbhcaaDoorProg.lean LOADS. Nothing in Lean hashes anything: it is a label: what it is worth is what the hold of that sum in a sandbox is worth. -/
noncomputable def Tryd.pinned : Pinned := { name := "ytaakbajhbmbhcaadoor", sum := "f6f316fe11c40eeb20845b1087b9c3b7d21d7df634e61f27a89a884bca5cfe8e", checked := Tryd.checked }
namespace Rows
def none {H : Type} : Left H := { results := [], args := [] }

/- WHAT THE LISTED PACKAGE-LEVEL VARIABLES READ AS WHEN THE CALL BEGINS. Each datum BY PROGRAM (the guide's laid-datum.mjs) off the statement by which the dump's own 'gosem.cut.vars' lays the variable. In a bare row this is a premise. The card (YtaakbajhbmbhcaaDoorCards.lean) ties it to the program's text. -/
def laid_meridian_api_ErrBound {H : Type} : DataW H := .iface "*errors.errorString" (.ptr (.agg [.lit (.string [109, 101, 114, 105, 100, 105, 97, 110, 58, 32, 98, 111, 117, 110, 100])]))
def laid_meridian_api_ErrShape {H : Type} : DataW H := .iface "*errors.errorString" (.ptr (.agg [.lit (.string [109, 101, 114, 105, 100, 105, 97, 110, 58, 32, 115, 104, 97, 112, 101])]))
def laid_errors_errorType {H : Type} : DataW H := .iface "internal/reflectlite.rtype" (.agg [.ptr (.lit (.string [101, 114, 114, 111, 114]))])
def laid_meridian_api_ErrText {H : Type} : DataW H := .iface "*errors.errorString" (.ptr (.agg [.lit (.string [109, 101, 114, 105, 100, 105, 97, 110, 58, 32, 116, 101, 120, 116])]))
def laid_meridian_api_ErrTime {H : Type} : DataW H := .iface "*errors.errorString" (.ptr (.agg [.lit (.string [109, 101, 114, 105, 100, 105, 97, 110, 58, 32, 116, 105, 109, 101])]))
def laid_meridian_api_ErrTable {H : Type} : DataW H := .iface "*errors.errorString" (.ptr (.agg [.lit (.string [109, 101, 114, 105, 100, 105, 97, 110, 58, 32, 116, 97, 98, 108, 101])]))
def laid_meridian_api_ErrLimit {H : Type} : DataW H := .iface "*errors.errorString" (.ptr (.agg [.lit (.string [109, 101, 114, 105, 100, 105, 97, 110, 58, 32, 108, 105, 109, 105, 116])]))
def laid_meridian_api_ErrState {H : Type} : DataW H := .iface "*errors.errorString" (.ptr (.agg [.lit (.string [109, 101, 114, 105, 100, 105, 97, 110, 58, 32, 115, 116, 97, 116, 101])]))
def laid_meridian_api_ErrFile {H : Type} : DataW H := .iface "*errors.errorString" (.ptr (.agg [.lit (.string [109, 101, 114, 105, 100, 105, 97, 110, 58, 32, 102, 105, 108, 101])]))
def laid_meridian_api_ErrNone {H : Type} : DataW H := .iface "*errors.errorString" (.ptr (.agg [.lit (.string [109, 101, 114, 105, 100, 105, 97, 110, 58, 32, 110, 111, 110, 101])]))
def laid_meridian_api_ErrName {H : Type} : DataW H := .iface "*errors.errorString" (.ptr (.agg [.lit (.string [109, 101, 114, 105, 100, 105, 97, 110, 58, 32, 110, 97, 109, 101])]))

/-- 'meridianlaw5.ShiftInverse': WHATEVER THE INPUT: true; the input reads as it did. -/
def shiftInverseSpec : ChangeSpec := { name := "shiftInverse", fn := fun _ => fun
  | [d] => { results := [.lit (.bool true)], args := [d] }
  | _ => none }
def shiftInverseRow : OpenClaim := { program := "ytaakbajhbmbhcaadoor", sum := "f6f316fe11c40eeb20845b1087b9c3b7d21d7df634e61f27a89a884bca5cfe8e", func := "meridian/meridianlaw5.ShiftInverse", spec := "shiftInverse", recurses := true, named := ["meridian/api.ErrBound", "meridian/api.ErrShape"], apart := false, laid := [("meridian/api.ErrBound", laid_meridian_api_ErrBound), ("meridian/api.ErrShape", laid_meridian_api_ErrShape)] }
def ShiftInverseSaid : Prop := shiftInverseRow.holds Tryd.pinned (OpenSpec.ofChange shiftInverseSpec)

/-- ITS FALSE NEIGHBOUR: 'it returns false'. Refute it at one input. -/
def shiftInverseWrong : ChangeSpec := { name := "shiftInverse", fn := fun _ => fun
  | [d] => { results := [.lit (.bool false)], args := [d] }
  | _ => none }
def ShiftInverseWrongFalsely : Prop := shiftInverseRow.holds Tryd.pinned (OpenSpec.ofChange shiftInverseWrong)

/-- 'meridianlaw5.ShiftMoved': WHATEVER THE INPUT: true; the input reads as it did. -/
def shiftMovedSpec : ChangeSpec := { name := "shiftMoved", fn := fun _ => fun
  | [d1, d2, d3] => { results := [.lit (.bool true)], args := [d1, d2, d3] }
  | _ => none }
def shiftMovedRow : OpenClaim := { program := "ytaakbajhbmbhcaadoor", sum := "f6f316fe11c40eeb20845b1087b9c3b7d21d7df634e61f27a89a884bca5cfe8e", func := "meridian/meridianlaw5.ShiftMoved", spec := "shiftMoved", inPlace := ["internal/reflectlite.ValueOf", "(internal/reflectlite.Value).Type", "(internal/reflectlite.Value).IsNil", "internal/reflectlite.TypeOf", "(internal/reflectlite.Value).Elem", "(internal/reflectlite.Value).Set"], unfollowed := true, recurses := true, named := ["meridian/api.ErrShape", "meridian/api.ErrBound", "meridian/api.ErrText", "meridian/api.ErrTime", "meridian/api.ErrTable", "meridian/api.ErrLimit", "meridian/api.ErrState", "meridian/api.ErrFile", "meridian/api.ErrNone", "meridian/api.ErrName", "errors.errorType"], apart := false, laid := [("errors.errorType", laid_errors_errorType), ("meridian/api.ErrText", laid_meridian_api_ErrText), ("meridian/api.ErrBound", laid_meridian_api_ErrBound), ("meridian/api.ErrTime", laid_meridian_api_ErrTime), ("meridian/api.ErrTable", laid_meridian_api_ErrTable), ("meridian/api.ErrShape", laid_meridian_api_ErrShape), ("meridian/api.ErrLimit", laid_meridian_api_ErrLimit), ("meridian/api.ErrState", laid_meridian_api_ErrState), ("meridian/api.ErrFile", laid_meridian_api_ErrFile), ("meridian/api.ErrNone", laid_meridian_api_ErrNone), ("meridian/api.ErrName", laid_meridian_api_ErrName)] }
def ShiftMovedSaid : Prop := shiftMovedRow.holds Tryd.pinned (OpenSpec.ofChange shiftMovedSpec)

/-- ITS FALSE NEIGHBOUR: 'it returns false'. Refute it at one input. -/
def shiftMovedWrong : ChangeSpec := { name := "shiftMoved", fn := fun _ => fun
  | [d1, d2, d3] => { results := [.lit (.bool false)], args := [d1, d2, d3] }
  | _ => none }
def ShiftMovedWrongFalsely : Prop := shiftMovedRow.holds Tryd.pinned (OpenSpec.ofChange shiftMovedWrong)

/-- 'meridianlaw5.ShiftCross': WHATEVER THE INPUT: true; the input reads as it did. -/
def shiftCrossSpec : ChangeSpec := { name := "shiftCross", fn := fun _ => fun
  | [d1, d2, d3] => { results := [.lit (.bool true)], args := [d1, d2, d3] }
  | _ => none }
def shiftCrossRow : OpenClaim := { program := "ytaakbajhbmbhcaadoor", sum := "f6f316fe11c40eeb20845b1087b9c3b7d21d7df634e61f27a89a884bca5cfe8e", func := "meridian/meridianlaw5.ShiftCross", spec := "shiftCross", inPlace := ["internal/reflectlite.ValueOf", "(internal/reflectlite.Value).Type", "(internal/reflectlite.Value).IsNil", "internal/reflectlite.TypeOf", "(internal/reflectlite.Value).Elem", "(internal/reflectlite.Value).Set"], unfollowed := true, recurses := true, named := ["meridian/api.ErrBound", "meridian/api.ErrShape", "meridian/api.ErrText", "meridian/api.ErrTime", "meridian/api.ErrTable", "meridian/api.ErrLimit", "meridian/api.ErrState", "meridian/api.ErrFile", "meridian/api.ErrNone", "meridian/api.ErrName", "errors.errorType"], apart := false, laid := [("errors.errorType", laid_errors_errorType), ("meridian/api.ErrText", laid_meridian_api_ErrText), ("meridian/api.ErrBound", laid_meridian_api_ErrBound), ("meridian/api.ErrTime", laid_meridian_api_ErrTime), ("meridian/api.ErrTable", laid_meridian_api_ErrTable), ("meridian/api.ErrShape", laid_meridian_api_ErrShape), ("meridian/api.ErrLimit", laid_meridian_api_ErrLimit), ("meridian/api.ErrState", laid_meridian_api_ErrState), ("meridian/api.ErrFile", laid_meridian_api_ErrFile), ("meridian/api.ErrNone", laid_meridian_api_ErrNone), ("meridian/api.ErrName", laid_meridian_api_ErrName)] }
def ShiftCrossSaid : Prop := shiftCrossRow.holds Tryd.pinned (OpenSpec.ofChange shiftCrossSpec)

/-- ITS FALSE NEIGHBOUR: 'it returns false'. Refute it at one input. -/
def shiftCrossWrong : ChangeSpec := { name := "shiftCross", fn := fun _ => fun
  | [d1, d2, d3] => { results := [.lit (.bool false)], args := [d1, d2, d3] }
  | _ => none }
def ShiftCrossWrongFalsely : Prop := shiftCrossRow.holds Tryd.pinned (OpenSpec.ofChange shiftCrossWrong)

/-- 'meridianlaw5.ShiftWaves': WHATEVER THE INPUT: true; the input reads as it did. -/
def shiftWavesSpec : ChangeSpec := { name := "shiftWaves", fn := fun _ => fun
  | [d1, d2] => { results := [.lit (.bool true)], args := [d1, d2] }
  | _ => none }
def shiftWavesRow : OpenClaim := { program := "ytaakbajhbmbhcaadoor", sum := "f6f316fe11c40eeb20845b1087b9c3b7d21d7df634e61f27a89a884bca5cfe8e", func := "meridian/meridianlaw5.ShiftWaves", spec := "shiftWaves", inPlace := ["internal/reflectlite.ValueOf", "(internal/reflectlite.Value).Type", "(internal/reflectlite.Value).IsNil", "internal/reflectlite.TypeOf", "(internal/reflectlite.Value).Elem", "(internal/reflectlite.Value).Set", "math.Float64bits"], unfollowed := true, recurses := true, named := ["meridian/api.ErrBound", "meridian/api.ErrShape", "meridian/api.ErrText", "meridian/api.ErrTime", "meridian/api.ErrTable", "meridian/api.ErrLimit", "meridian/api.ErrState", "meridian/api.ErrFile", "meridian/api.ErrNone", "meridian/api.ErrName", "errors.errorType"], apart := false, laid := [("errors.errorType", laid_errors_errorType), ("meridian/api.ErrText", laid_meridian_api_ErrText), ("meridian/api.ErrBound", laid_meridian_api_ErrBound), ("meridian/api.ErrTime", laid_meridian_api_ErrTime), ("meridian/api.ErrTable", laid_meridian_api_ErrTable), ("meridian/api.ErrShape", laid_meridian_api_ErrShape), ("meridian/api.ErrLimit", laid_meridian_api_ErrLimit), ("meridian/api.ErrState", laid_meridian_api_ErrState), ("meridian/api.ErrFile", laid_meridian_api_ErrFile), ("meridian/api.ErrNone", laid_meridian_api_ErrNone), ("meridian/api.ErrName", laid_meridian_api_ErrName)] }
def ShiftWavesSaid : Prop := shiftWavesRow.holds Tryd.pinned (OpenSpec.ofChange shiftWavesSpec)

/-- ITS FALSE NEIGHBOUR: 'it returns false'. Refute it at one input. -/
def shiftWavesWrong : ChangeSpec := { name := "shiftWaves", fn := fun _ => fun
  | [d1, d2] => { results := [.lit (.bool false)], args := [d1, d2] }
  | _ => none }
def ShiftWavesWrongFalsely : Prop := shiftWavesRow.holds Tryd.pinned (OpenSpec.ofChange shiftWavesWrong)

/-- 'meridianlaw5.ShiftFast': WHATEVER THE INPUT: true; the input reads as it did. -/
def shiftFastSpec : ChangeSpec := { name := "shiftFast", fn := fun _ => fun
  | [d1, d2] => { results := [.lit (.bool true)], args := [d1, d2] }
  | _ => none }
def shiftFastRow : OpenClaim := { program := "ytaakbajhbmbhcaadoor", sum := "f6f316fe11c40eeb20845b1087b9c3b7d21d7df634e61f27a89a884bca5cfe8e", func := "meridian/meridianlaw5.ShiftFast", spec := "shiftFast", inPlace := ["internal/reflectlite.ValueOf", "(internal/reflectlite.Value).Type", "(internal/reflectlite.Value).IsNil", "internal/reflectlite.TypeOf", "(internal/reflectlite.Value).Elem", "(internal/reflectlite.Value).Set", "math.Float64bits"], unfollowed := true, recurses := true, named := ["meridian/api.ErrBound", "meridian/api.ErrShape", "meridian/api.ErrText", "meridian/api.ErrTime", "meridian/api.ErrTable", "meridian/api.ErrLimit", "meridian/api.ErrState", "meridian/api.ErrFile", "meridian/api.ErrNone", "meridian/api.ErrName", "errors.errorType"], apart := false, laid := [("errors.errorType", laid_errors_errorType), ("meridian/api.ErrText", laid_meridian_api_ErrText), ("meridian/api.ErrBound", laid_meridian_api_ErrBound), ("meridian/api.ErrTime", laid_meridian_api_ErrTime), ("meridian/api.ErrTable", laid_meridian_api_ErrTable), ("meridian/api.ErrShape", laid_meridian_api_ErrShape), ("meridian/api.ErrLimit", laid_meridian_api_ErrLimit), ("meridian/api.ErrState", laid_meridian_api_ErrState), ("meridian/api.ErrFile", laid_meridian_api_ErrFile), ("meridian/api.ErrNone", laid_meridian_api_ErrNone), ("meridian/api.ErrName", laid_meridian_api_ErrName)] }
def ShiftFastSaid : Prop := shiftFastRow.holds Tryd.pinned (OpenSpec.ofChange shiftFastSpec)

/-- ITS FALSE NEIGHBOUR: 'it returns false'. Refute it at one input. -/
def shiftFastWrong : ChangeSpec := { name := "shiftFast", fn := fun _ => fun
  | [d1, d2] => { results := [.lit (.bool false)], args := [d1, d2] }
  | _ => none }
def ShiftFastWrongFalsely : Prop := shiftFastRow.holds Tryd.pinned (OpenSpec.ofChange shiftFastWrong)

/-- 'meridianlaw5.ShiftGuess': WHATEVER THE INPUT: true; the input reads as it did. -/
def shiftGuessSpec : ChangeSpec := { name := "shiftGuess", fn := fun _ => fun
  | [d1, d2, d3] => { results := [.lit (.bool true)], args := [d1, d2, d3] }
  | _ => none }
def shiftGuessRow : OpenClaim := { program := "ytaakbajhbmbhcaadoor", sum := "f6f316fe11c40eeb20845b1087b9c3b7d21d7df634e61f27a89a884bca5cfe8e", func := "meridian/meridianlaw5.ShiftGuess", spec := "shiftGuess", inPlace := ["internal/reflectlite.ValueOf", "(internal/reflectlite.Value).Type", "(internal/reflectlite.Value).IsNil", "internal/reflectlite.TypeOf", "(internal/reflectlite.Value).Elem", "(internal/reflectlite.Value).Set"], unfollowed := true, recurses := true, named := ["meridian/api.ErrShape", "meridian/api.ErrBound", "meridian/api.ErrText", "meridian/api.ErrTime", "meridian/api.ErrTable", "meridian/api.ErrLimit", "meridian/api.ErrState", "meridian/api.ErrFile", "meridian/api.ErrNone", "meridian/api.ErrName", "errors.errorType"], apart := false, laid := [("errors.errorType", laid_errors_errorType), ("meridian/api.ErrText", laid_meridian_api_ErrText), ("meridian/api.ErrBound", laid_meridian_api_ErrBound), ("meridian/api.ErrTime", laid_meridian_api_ErrTime), ("meridian/api.ErrTable", laid_meridian_api_ErrTable), ("meridian/api.ErrShape", laid_meridian_api_ErrShape), ("meridian/api.ErrLimit", laid_meridian_api_ErrLimit), ("meridian/api.ErrState", laid_meridian_api_ErrState), ("meridian/api.ErrFile", laid_meridian_api_ErrFile), ("meridian/api.ErrNone", laid_meridian_api_ErrNone), ("meridian/api.ErrName", laid_meridian_api_ErrName)] }
def ShiftGuessSaid : Prop := shiftGuessRow.holds Tryd.pinned (OpenSpec.ofChange shiftGuessSpec)

/-- ITS FALSE NEIGHBOUR: 'it returns false'. Refute it at one input. -/
def shiftGuessWrong : ChangeSpec := { name := "shiftGuess", fn := fun _ => fun
  | [d1, d2, d3] => { results := [.lit (.bool false)], args := [d1, d2, d3] }
  | _ => none }
def ShiftGuessWrongFalsely : Prop := shiftGuessRow.holds Tryd.pinned (OpenSpec.ofChange shiftGuessWrong)

/- THE SECOND FORM. 'bulk': how many values and letters a reading holds, each counted each time it is reached (what is shared counts as often as it is met; a slice's spare places count too). A statement '..UptoSaid' is the law's where the arguments, and the package variables that the reading takes, are together of bulk at most 1048576: NARROWER than '..Said'. Prove '..Said' where nothing that the law and all that it calls make is longer than what came in: it says more and counts as full. Else prove '..UptoSaid'. A law counts once. -/
mutual
def uptoBulk {H : Type} : DataW H → Nat
  | .lit (.string bytes) => bytes.length + 1
  | .lit _ => 1
  | .nil => 1
  | .ptr d => uptoBulk d + 1
  | .slice elems spare => uptoBulkAll elems + uptoBulkAll spare + 1
  | .agg parts => uptoBulkAll parts + 1
  | .iface _ d => uptoBulk d + 1
  | .map entries => uptoBulkEntries entries + 1
  | .held _ => 1
def uptoBulkAll {H : Type} : List (DataW H) → Nat
  | [] => 0
  | d :: r => uptoBulk d + uptoBulkAll r
def uptoBulkEntries {H : Type} : List (Lit × DataW H) → Nat
  | [] => 0
  | x :: r => uptoBulkEntry x + uptoBulkEntries r
def uptoBulkEntry {H : Type} : Lit × DataW H → Nat
  | (.string bytes, d) => bytes.length + uptoBulk d + 1
  | (_, d) => uptoBulk d + 1
 end
def uptoSmall : (H : Type) → List (DataW H) → Bool := fun _ ds => decide (uptoBulkAll ds ≤ 1048576)
def OpenSpec.upto (s : _root_.Go.ChangeSpec) : _root_.Go.OpenSpec := { _root_.Go.OpenSpec.ofChange s with cond := some uptoSmall }

/-- 'meridianlaw5.ShiftInverse', WHERE WHAT IT READS IS OF BULK AT MOST 1048576: true; the input reads as it did. -/
def shiftInverseUptoRow : OpenClaim := { program := "ytaakbajhbmbhcaadoor", sum := "f6f316fe11c40eeb20845b1087b9c3b7d21d7df634e61f27a89a884bca5cfe8e", func := "meridian/meridianlaw5.ShiftInverse", spec := "shiftInverse", recurses := true, named := ["meridian/api.ErrBound", "meridian/api.ErrShape"], apart := false, laid := [("meridian/api.ErrBound", laid_meridian_api_ErrBound), ("meridian/api.ErrShape", laid_meridian_api_ErrShape)], narrowed := true }
def ShiftInverseUptoSaid : Prop := shiftInverseUptoRow.holds Tryd.pinned (OpenSpec.upto shiftInverseSpec)

/-- 'meridianlaw5.ShiftMoved', WHERE WHAT IT READS IS OF BULK AT MOST 1048576: true; the input reads as it did. -/
def shiftMovedUptoRow : OpenClaim := { program := "ytaakbajhbmbhcaadoor", sum := "f6f316fe11c40eeb20845b1087b9c3b7d21d7df634e61f27a89a884bca5cfe8e", func := "meridian/meridianlaw5.ShiftMoved", spec := "shiftMoved", inPlace := ["internal/reflectlite.ValueOf", "(internal/reflectlite.Value).Type", "(internal/reflectlite.Value).IsNil", "internal/reflectlite.TypeOf", "(internal/reflectlite.Value).Elem", "(internal/reflectlite.Value).Set"], unfollowed := true, recurses := true, named := ["meridian/api.ErrShape", "meridian/api.ErrBound", "meridian/api.ErrText", "meridian/api.ErrTime", "meridian/api.ErrTable", "meridian/api.ErrLimit", "meridian/api.ErrState", "meridian/api.ErrFile", "meridian/api.ErrNone", "meridian/api.ErrName", "errors.errorType"], apart := false, laid := [("errors.errorType", laid_errors_errorType), ("meridian/api.ErrText", laid_meridian_api_ErrText), ("meridian/api.ErrBound", laid_meridian_api_ErrBound), ("meridian/api.ErrTime", laid_meridian_api_ErrTime), ("meridian/api.ErrTable", laid_meridian_api_ErrTable), ("meridian/api.ErrShape", laid_meridian_api_ErrShape), ("meridian/api.ErrLimit", laid_meridian_api_ErrLimit), ("meridian/api.ErrState", laid_meridian_api_ErrState), ("meridian/api.ErrFile", laid_meridian_api_ErrFile), ("meridian/api.ErrNone", laid_meridian_api_ErrNone), ("meridian/api.ErrName", laid_meridian_api_ErrName)], narrowed := true }
def ShiftMovedUptoSaid : Prop := shiftMovedUptoRow.holds Tryd.pinned (OpenSpec.upto shiftMovedSpec)

/-- 'meridianlaw5.ShiftCross', WHERE WHAT IT READS IS OF BULK AT MOST 1048576: true; the input reads as it did. -/
def shiftCrossUptoRow : OpenClaim := { program := "ytaakbajhbmbhcaadoor", sum := "f6f316fe11c40eeb20845b1087b9c3b7d21d7df634e61f27a89a884bca5cfe8e", func := "meridian/meridianlaw5.ShiftCross", spec := "shiftCross", inPlace := ["internal/reflectlite.ValueOf", "(internal/reflectlite.Value).Type", "(internal/reflectlite.Value).IsNil", "internal/reflectlite.TypeOf", "(internal/reflectlite.Value).Elem", "(internal/reflectlite.Value).Set"], unfollowed := true, recurses := true, named := ["meridian/api.ErrBound", "meridian/api.ErrShape", "meridian/api.ErrText", "meridian/api.ErrTime", "meridian/api.ErrTable", "meridian/api.ErrLimit", "meridian/api.ErrState", "meridian/api.ErrFile", "meridian/api.ErrNone", "meridian/api.ErrName", "errors.errorType"], apart := false, laid := [("errors.errorType", laid_errors_errorType), ("meridian/api.ErrText", laid_meridian_api_ErrText), ("meridian/api.ErrBound", laid_meridian_api_ErrBound), ("meridian/api.ErrTime", laid_meridian_api_ErrTime), ("meridian/api.ErrTable", laid_meridian_api_ErrTable), ("meridian/api.ErrShape", laid_meridian_api_ErrShape), ("meridian/api.ErrLimit", laid_meridian_api_ErrLimit), ("meridian/api.ErrState", laid_meridian_api_ErrState), ("meridian/api.ErrFile", laid_meridian_api_ErrFile), ("meridian/api.ErrNone", laid_meridian_api_ErrNone), ("meridian/api.ErrName", laid_meridian_api_ErrName)], narrowed := true }
def ShiftCrossUptoSaid : Prop := shiftCrossUptoRow.holds Tryd.pinned (OpenSpec.upto shiftCrossSpec)

/-- 'meridianlaw5.ShiftWaves', WHERE WHAT IT READS IS OF BULK AT MOST 1048576: true; the input reads as it did. -/
def shiftWavesUptoRow : OpenClaim := { program := "ytaakbajhbmbhcaadoor", sum := "f6f316fe11c40eeb20845b1087b9c3b7d21d7df634e61f27a89a884bca5cfe8e", func := "meridian/meridianlaw5.ShiftWaves", spec := "shiftWaves", inPlace := ["internal/reflectlite.ValueOf", "(internal/reflectlite.Value).Type", "(internal/reflectlite.Value).IsNil", "internal/reflectlite.TypeOf", "(internal/reflectlite.Value).Elem", "(internal/reflectlite.Value).Set", "math.Float64bits"], unfollowed := true, recurses := true, named := ["meridian/api.ErrBound", "meridian/api.ErrShape", "meridian/api.ErrText", "meridian/api.ErrTime", "meridian/api.ErrTable", "meridian/api.ErrLimit", "meridian/api.ErrState", "meridian/api.ErrFile", "meridian/api.ErrNone", "meridian/api.ErrName", "errors.errorType"], apart := false, laid := [("errors.errorType", laid_errors_errorType), ("meridian/api.ErrText", laid_meridian_api_ErrText), ("meridian/api.ErrBound", laid_meridian_api_ErrBound), ("meridian/api.ErrTime", laid_meridian_api_ErrTime), ("meridian/api.ErrTable", laid_meridian_api_ErrTable), ("meridian/api.ErrShape", laid_meridian_api_ErrShape), ("meridian/api.ErrLimit", laid_meridian_api_ErrLimit), ("meridian/api.ErrState", laid_meridian_api_ErrState), ("meridian/api.ErrFile", laid_meridian_api_ErrFile), ("meridian/api.ErrNone", laid_meridian_api_ErrNone), ("meridian/api.ErrName", laid_meridian_api_ErrName)], narrowed := true }
def ShiftWavesUptoSaid : Prop := shiftWavesUptoRow.holds Tryd.pinned (OpenSpec.upto shiftWavesSpec)

/-- 'meridianlaw5.ShiftFast', WHERE WHAT IT READS IS OF BULK AT MOST 1048576: true; the input reads as it did. -/
def shiftFastUptoRow : OpenClaim := { program := "ytaakbajhbmbhcaadoor", sum := "f6f316fe11c40eeb20845b1087b9c3b7d21d7df634e61f27a89a884bca5cfe8e", func := "meridian/meridianlaw5.ShiftFast", spec := "shiftFast", inPlace := ["internal/reflectlite.ValueOf", "(internal/reflectlite.Value).Type", "(internal/reflectlite.Value).IsNil", "internal/reflectlite.TypeOf", "(internal/reflectlite.Value).Elem", "(internal/reflectlite.Value).Set", "math.Float64bits"], unfollowed := true, recurses := true, named := ["meridian/api.ErrBound", "meridian/api.ErrShape", "meridian/api.ErrText", "meridian/api.ErrTime", "meridian/api.ErrTable", "meridian/api.ErrLimit", "meridian/api.ErrState", "meridian/api.ErrFile", "meridian/api.ErrNone", "meridian/api.ErrName", "errors.errorType"], apart := false, laid := [("errors.errorType", laid_errors_errorType), ("meridian/api.ErrText", laid_meridian_api_ErrText), ("meridian/api.ErrBound", laid_meridian_api_ErrBound), ("meridian/api.ErrTime", laid_meridian_api_ErrTime), ("meridian/api.ErrTable", laid_meridian_api_ErrTable), ("meridian/api.ErrShape", laid_meridian_api_ErrShape), ("meridian/api.ErrLimit", laid_meridian_api_ErrLimit), ("meridian/api.ErrState", laid_meridian_api_ErrState), ("meridian/api.ErrFile", laid_meridian_api_ErrFile), ("meridian/api.ErrNone", laid_meridian_api_ErrNone), ("meridian/api.ErrName", laid_meridian_api_ErrName)], narrowed := true }
def ShiftFastUptoSaid : Prop := shiftFastUptoRow.holds Tryd.pinned (OpenSpec.upto shiftFastSpec)

/-- 'meridianlaw5.ShiftGuess', WHERE WHAT IT READS IS OF BULK AT MOST 1048576: true; the input reads as it did. -/
def shiftGuessUptoRow : OpenClaim := { program := "ytaakbajhbmbhcaadoor", sum := "f6f316fe11c40eeb20845b1087b9c3b7d21d7df634e61f27a89a884bca5cfe8e", func := "meridian/meridianlaw5.ShiftGuess", spec := "shiftGuess", inPlace := ["internal/reflectlite.ValueOf", "(internal/reflectlite.Value).Type", "(internal/reflectlite.Value).IsNil", "internal/reflectlite.TypeOf", "(internal/reflectlite.Value).Elem", "(internal/reflectlite.Value).Set"], unfollowed := true, recurses := true, named := ["meridian/api.ErrShape", "meridian/api.ErrBound", "meridian/api.ErrText", "meridian/api.ErrTime", "meridian/api.ErrTable", "meridian/api.ErrLimit", "meridian/api.ErrState", "meridian/api.ErrFile", "meridian/api.ErrNone", "meridian/api.ErrName", "errors.errorType"], apart := false, laid := [("errors.errorType", laid_errors_errorType), ("meridian/api.ErrText", laid_meridian_api_ErrText), ("meridian/api.ErrBound", laid_meridian_api_ErrBound), ("meridian/api.ErrTime", laid_meridian_api_ErrTime), ("meridian/api.ErrTable", laid_meridian_api_ErrTable), ("meridian/api.ErrShape", laid_meridian_api_ErrShape), ("meridian/api.ErrLimit", laid_meridian_api_ErrLimit), ("meridian/api.ErrState", laid_meridian_api_ErrState), ("meridian/api.ErrFile", laid_meridian_api_ErrFile), ("meridian/api.ErrNone", laid_meridian_api_ErrNone), ("meridian/api.ErrName", laid_meridian_api_ErrName)], narrowed := true }
def ShiftGuessUptoSaid : Prop := shiftGuessUptoRow.holds Tryd.pinned (OpenSpec.upto shiftGuessSpec)

end Rows
end Go.Proofs.YtaakbajhbmbhcaaDoor
