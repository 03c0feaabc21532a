/-
  NARROWER THAN 'FOR EVERY INPUT', by the rows' own cells (each row's printed sentence says how): MoveBack: laid · MovePush: laid · MountSafe: laid · MoveRuns: laid · MountTakes: laid · MoveNear: laid · MountHears: laid · EventSpans: laid · EventAll: laid · EventHeights: laid · EventWindows: laid.
  DERIVED. THE GIVEN ROWS OF THIS SEAT. 11 by the template 'for every input the law returns true; each argument reads behind the call as it read before'; 0 by the template 'total and deterministic' (their statements: YtlfpfeidaohjmaaDoorTotals.lean).
  GIVEN WITH THE SEED: the statements are not yours to turn. If you find one false, say at which input.
  Laid BY PROGRAM, IN A SANDBOX (cutbox-rows.mjs): the forced cells as the released guide's own fill.sh prints them over the translation 579f86b1f354307b… (all of the seat's roots in one cut). By AI agents, Wed Nov 11 2026. No macro, syntax, notation, axiom, sorry.
-/
import Derived.Test.YtlfpfeidaohjmaaDoorChecked
import GoSem.Claim
import GoSem.ClaimJoined
import GoSem.ClaimMapViews
import Derived.JoinedTies
import Derived.KernelRfl
namespace Go.Proofs.YtlfpfeidaohjmaaDoor
/- THE CELL 'sum', in the pinned program and in every row, IS THE sha256 OF THE DUMP (.gsa) THAT YtlfpfeidaohjmaaDoorProg.lean LOADS. Nothing in Lean hashes anything: it is a label: what it is worth is what the hold of that sum in a sandbox is worth. -/
noncomputable def Tryd.pinned : Pinned := { name := "ytlfpfeidaohjmaadoor", sum := "579f86b1f354307b3f70aa4f657b4b37da70d9fb1b573029ecc1219ca6b36bed", checked := Tryd.checked }
namespace Rows
def none {H : Type} : Left H := { results := [], args := [] }

/- WHAT THE LISTED PACKAGE-LEVEL VARIABLES READ AS WHEN THE CALL BEGINS. Each datum BY PROGRAM (the guide's laid-datum.mjs) off the statement by which the dump's own 'gosem.cut.vars' lays the variable. In a bare row this is a premise. The card (YtlfpfeidaohjmaaDoorCards.lean) ties it to the program's text. -/
def laid_meridian_api_ErrBound {H : Type} : DataW H := .iface "*errors.errorString" (.ptr (.agg [.lit (.string [109, 101, 114, 105, 100, 105, 97, 110, 58, 32, 98, 111, 117, 110, 100])]))
def laid_meridian_api_ErrShape {H : Type} : DataW H := .iface "*errors.errorString" (.ptr (.agg [.lit (.string [109, 101, 114, 105, 100, 105, 97, 110, 58, 32, 115, 104, 97, 112, 101])]))
def laid_meridian_api_ErrLimit {H : Type} : DataW H := .iface "*errors.errorString" (.ptr (.agg [.lit (.string [109, 101, 114, 105, 100, 105, 97, 110, 58, 32, 108, 105, 109, 105, 116])]))
def laid_meridian_api_ErrState {H : Type} : DataW H := .iface "*errors.errorString" (.ptr (.agg [.lit (.string [109, 101, 114, 105, 100, 105, 97, 110, 58, 32, 115, 116, 97, 116, 101])]))
def laid_meridian_api_ErrName {H : Type} : DataW H := .iface "*errors.errorString" (.ptr (.agg [.lit (.string [109, 101, 114, 105, 100, 105, 97, 110, 58, 32, 110, 97, 109, 101])]))
def laid_errors_errorType {H : Type} : DataW H := .iface "internal/reflectlite.rtype" (.agg [.ptr (.lit (.string [101, 114, 114, 111, 114]))])
def laid_meridian_api_ErrText {H : Type} : DataW H := .iface "*errors.errorString" (.ptr (.agg [.lit (.string [109, 101, 114, 105, 100, 105, 97, 110, 58, 32, 116, 101, 120, 116])]))
def laid_meridian_api_ErrTime {H : Type} : DataW H := .iface "*errors.errorString" (.ptr (.agg [.lit (.string [109, 101, 114, 105, 100, 105, 97, 110, 58, 32, 116, 105, 109, 101])]))
def laid_meridian_api_ErrTable {H : Type} : DataW H := .iface "*errors.errorString" (.ptr (.agg [.lit (.string [109, 101, 114, 105, 100, 105, 97, 110, 58, 32, 116, 97, 98, 108, 101])]))
def laid_meridian_api_ErrFile {H : Type} : DataW H := .iface "*errors.errorString" (.ptr (.agg [.lit (.string [109, 101, 114, 105, 100, 105, 97, 110, 58, 32, 102, 105, 108, 101])]))
def laid_meridian_api_ErrNone {H : Type} : DataW H := .iface "*errors.errorString" (.ptr (.agg [.lit (.string [109, 101, 114, 105, 100, 105, 97, 110, 58, 32, 110, 111, 110, 101])]))

/-- 'meridianlaw3.MoveBack': WHATEVER THE INPUT: true; the input reads as it did. -/
def moveBackSpec : ChangeSpec := { name := "moveBack", fn := fun _ => fun
  | [d1, d2, d3] => { results := [.lit (.bool true)], args := [d1, d2, d3] }
  | _ => none }
def moveBackRow : OpenClaim := { program := "ytlfpfeidaohjmaadoor", sum := "579f86b1f354307b3f70aa4f657b4b37da70d9fb1b573029ecc1219ca6b36bed", func := "meridian/meridianlaw3.MoveBack", spec := "moveBack", unfollowed := true, recurses := true, named := ["meridian/api.ErrBound", "meridian/api.ErrLimit", "meridian/api.ErrShape"], apart := false, laid := [("meridian/api.ErrBound", laid_meridian_api_ErrBound), ("meridian/api.ErrShape", laid_meridian_api_ErrShape), ("meridian/api.ErrLimit", laid_meridian_api_ErrLimit)] }
def MoveBackSaid : Prop := moveBackRow.holds Tryd.pinned (OpenSpec.ofChange moveBackSpec)

/-- ITS FALSE NEIGHBOUR: 'it returns false'. Refute it at one input. -/
def moveBackWrong : ChangeSpec := { name := "moveBack", fn := fun _ => fun
  | [d1, d2, d3] => { results := [.lit (.bool false)], args := [d1, d2, d3] }
  | _ => none }
def MoveBackWrongFalsely : Prop := moveBackRow.holds Tryd.pinned (OpenSpec.ofChange moveBackWrong)

/-- 'meridianlaw3.MovePush': WHATEVER THE INPUT: true; the input reads as it did. -/
def movePushSpec : ChangeSpec := { name := "movePush", fn := fun _ => fun
  | [d1, d2] => { results := [.lit (.bool true)], args := [d1, d2] }
  | _ => none }
def movePushRow : OpenClaim := { program := "ytlfpfeidaohjmaadoor", sum := "579f86b1f354307b3f70aa4f657b4b37da70d9fb1b573029ecc1219ca6b36bed", func := "meridian/meridianlaw3.MovePush", spec := "movePush", unfollowed := true, recurses := true, named := ["meridian/api.ErrBound", "meridian/api.ErrLimit", "meridian/api.ErrShape"], apart := false, laid := [("meridian/api.ErrBound", laid_meridian_api_ErrBound), ("meridian/api.ErrShape", laid_meridian_api_ErrShape), ("meridian/api.ErrLimit", laid_meridian_api_ErrLimit)] }
def MovePushSaid : Prop := movePushRow.holds Tryd.pinned (OpenSpec.ofChange movePushSpec)

/-- ITS FALSE NEIGHBOUR: 'it returns false'. Refute it at one input. -/
def movePushWrong : ChangeSpec := { name := "movePush", fn := fun _ => fun
  | [d1, d2] => { results := [.lit (.bool false)], args := [d1, d2] }
  | _ => none }
def MovePushWrongFalsely : Prop := movePushRow.holds Tryd.pinned (OpenSpec.ofChange movePushWrong)

/-- 'meridianlaw3.MountSafe': WHATEVER THE INPUT: true; the input reads as it did. -/
def mountSafeSpec : ChangeSpec := { name := "mountSafe", fn := fun _ => fun
  | [d1, d2, d3, d4] => { results := [.lit (.bool true)], args := [d1, d2, d3, d4] }
  | _ => none }
def mountSafeRow : OpenClaim := { program := "ytlfpfeidaohjmaadoor", sum := "579f86b1f354307b3f70aa4f657b4b37da70d9fb1b573029ecc1219ca6b36bed", func := "meridian/meridianlaw3.MountSafe", spec := "mountSafe", named := ["meridian/api.ErrShape", "meridian/api.ErrBound", "meridian/api.ErrState", "meridian/api.ErrLimit", "meridian/api.ErrName"], apart := false, laid := [("meridian/api.ErrBound", laid_meridian_api_ErrBound), ("meridian/api.ErrShape", laid_meridian_api_ErrShape), ("meridian/api.ErrLimit", laid_meridian_api_ErrLimit), ("meridian/api.ErrState", laid_meridian_api_ErrState), ("meridian/api.ErrName", laid_meridian_api_ErrName)] }
def MountSafeSaid : Prop := mountSafeRow.holds Tryd.pinned (OpenSpec.ofChange mountSafeSpec)

/-- ITS FALSE NEIGHBOUR: 'it returns false'. Refute it at one input. -/
def mountSafeWrong : ChangeSpec := { name := "mountSafe", fn := fun _ => fun
  | [d1, d2, d3, d4] => { results := [.lit (.bool false)], args := [d1, d2, d3, d4] }
  | _ => none }
def MountSafeWrongFalsely : Prop := mountSafeRow.holds Tryd.pinned (OpenSpec.ofChange mountSafeWrong)

/-- 'meridianlaw3.MoveRuns': WHATEVER THE INPUT: true; the input reads as it did. -/
def moveRunsSpec : ChangeSpec := { name := "moveRuns", fn := fun _ => fun
  | [d1, d2] => { results := [.lit (.bool true)], args := [d1, d2] }
  | _ => none }
def moveRunsRow : OpenClaim := { program := "ytlfpfeidaohjmaadoor", sum := "579f86b1f354307b3f70aa4f657b4b37da70d9fb1b573029ecc1219ca6b36bed", func := "meridian/meridianlaw3.MoveRuns", spec := "moveRuns", inPlace := ["internal/reflectlite.ValueOf", "(internal/reflectlite.Value).Type", "(internal/reflectlite.Value).IsNil", "internal/reflectlite.TypeOf", "(internal/reflectlite.Value).Elem", "(internal/reflectlite.Value).Set"], unfollowed := true, recurses := true, named := ["meridian/api.ErrBound", "meridian/api.ErrLimit", "meridian/api.ErrShape", "meridian/api.ErrText", "meridian/api.ErrTime", "meridian/api.ErrTable", "meridian/api.ErrState", "meridian/api.ErrFile", "meridian/api.ErrNone", "meridian/api.ErrName", "errors.errorType"], apart := false, laid := [("errors.errorType", laid_errors_errorType), ("meridian/api.ErrText", laid_meridian_api_ErrText), ("meridian/api.ErrBound", laid_meridian_api_ErrBound), ("meridian/api.ErrTime", laid_meridian_api_ErrTime), ("meridian/api.ErrTable", laid_meridian_api_ErrTable), ("meridian/api.ErrShape", laid_meridian_api_ErrShape), ("meridian/api.ErrLimit", laid_meridian_api_ErrLimit), ("meridian/api.ErrState", laid_meridian_api_ErrState), ("meridian/api.ErrFile", laid_meridian_api_ErrFile), ("meridian/api.ErrNone", laid_meridian_api_ErrNone), ("meridian/api.ErrName", laid_meridian_api_ErrName)] }
def MoveRunsSaid : Prop := moveRunsRow.holds Tryd.pinned (OpenSpec.ofChange moveRunsSpec)

/-- ITS FALSE NEIGHBOUR: 'it returns false'. Refute it at one input. -/
def moveRunsWrong : ChangeSpec := { name := "moveRuns", fn := fun _ => fun
  | [d1, d2] => { results := [.lit (.bool false)], args := [d1, d2] }
  | _ => none }
def MoveRunsWrongFalsely : Prop := moveRunsRow.holds Tryd.pinned (OpenSpec.ofChange moveRunsWrong)

/-- 'meridianlaw3.MountTakes': WHATEVER THE INPUT: true; the input reads as it did. -/
def mountTakesSpec : ChangeSpec := { name := "mountTakes", fn := fun _ => fun
  | [d1, d2, d3, d4] => { results := [.lit (.bool true)], args := [d1, d2, d3, d4] }
  | _ => none }
def mountTakesRow : OpenClaim := { program := "ytlfpfeidaohjmaadoor", sum := "579f86b1f354307b3f70aa4f657b4b37da70d9fb1b573029ecc1219ca6b36bed", func := "meridian/meridianlaw3.MountTakes", spec := "mountTakes", inPlace := ["internal/reflectlite.ValueOf", "(internal/reflectlite.Value).Type", "(internal/reflectlite.Value).IsNil", "internal/reflectlite.TypeOf", "(internal/reflectlite.Value).Elem", "(internal/reflectlite.Value).Set"], unfollowed := true, recurses := true, named := ["meridian/api.ErrShape", "meridian/api.ErrBound", "meridian/api.ErrText", "meridian/api.ErrTime", "meridian/api.ErrTable", "meridian/api.ErrLimit", "meridian/api.ErrState", "meridian/api.ErrFile", "meridian/api.ErrNone", "meridian/api.ErrName", "errors.errorType"], apart := false, laid := [("errors.errorType", laid_errors_errorType), ("meridian/api.ErrText", laid_meridian_api_ErrText), ("meridian/api.ErrBound", laid_meridian_api_ErrBound), ("meridian/api.ErrTime", laid_meridian_api_ErrTime), ("meridian/api.ErrTable", laid_meridian_api_ErrTable), ("meridian/api.ErrShape", laid_meridian_api_ErrShape), ("meridian/api.ErrLimit", laid_meridian_api_ErrLimit), ("meridian/api.ErrState", laid_meridian_api_ErrState), ("meridian/api.ErrFile", laid_meridian_api_ErrFile), ("meridian/api.ErrNone", laid_meridian_api_ErrNone), ("meridian/api.ErrName", laid_meridian_api_ErrName)] }
def MountTakesSaid : Prop := mountTakesRow.holds Tryd.pinned (OpenSpec.ofChange mountTakesSpec)

/-- ITS FALSE NEIGHBOUR: 'it returns false'. Refute it at one input. -/
def mountTakesWrong : ChangeSpec := { name := "mountTakes", fn := fun _ => fun
  | [d1, d2, d3, d4] => { results := [.lit (.bool false)], args := [d1, d2, d3, d4] }
  | _ => none }
def MountTakesWrongFalsely : Prop := mountTakesRow.holds Tryd.pinned (OpenSpec.ofChange mountTakesWrong)

/-- 'meridianlaw3.MoveNear': WHATEVER THE INPUT: true; the input reads as it did. -/
def moveNearSpec : ChangeSpec := { name := "moveNear", fn := fun _ => fun
  | [d1, d2] => { results := [.lit (.bool true)], args := [d1, d2] }
  | _ => none }
def moveNearRow : OpenClaim := { program := "ytlfpfeidaohjmaadoor", sum := "579f86b1f354307b3f70aa4f657b4b37da70d9fb1b573029ecc1219ca6b36bed", func := "meridian/meridianlaw3.MoveNear", spec := "moveNear", inPlace := ["internal/reflectlite.ValueOf", "(internal/reflectlite.Value).Type", "(internal/reflectlite.Value).IsNil", "internal/reflectlite.TypeOf", "(internal/reflectlite.Value).Elem", "(internal/reflectlite.Value).Set"], unfollowed := true, recurses := true, named := ["meridian/api.ErrBound", "meridian/api.ErrLimit", "meridian/api.ErrShape", "meridian/api.ErrNone", "meridian/api.ErrText", "meridian/api.ErrTime", "meridian/api.ErrTable", "meridian/api.ErrState", "meridian/api.ErrFile", "meridian/api.ErrName", "errors.errorType"], apart := false, laid := [("errors.errorType", laid_errors_errorType), ("meridian/api.ErrText", laid_meridian_api_ErrText), ("meridian/api.ErrBound", laid_meridian_api_ErrBound), ("meridian/api.ErrTime", laid_meridian_api_ErrTime), ("meridian/api.ErrTable", laid_meridian_api_ErrTable), ("meridian/api.ErrShape", laid_meridian_api_ErrShape), ("meridian/api.ErrLimit", laid_meridian_api_ErrLimit), ("meridian/api.ErrState", laid_meridian_api_ErrState), ("meridian/api.ErrFile", laid_meridian_api_ErrFile), ("meridian/api.ErrNone", laid_meridian_api_ErrNone), ("meridian/api.ErrName", laid_meridian_api_ErrName)] }
def MoveNearSaid : Prop := moveNearRow.holds Tryd.pinned (OpenSpec.ofChange moveNearSpec)

/-- ITS FALSE NEIGHBOUR: 'it returns false'. Refute it at one input. -/
def moveNearWrong : ChangeSpec := { name := "moveNear", fn := fun _ => fun
  | [d1, d2] => { results := [.lit (.bool false)], args := [d1, d2] }
  | _ => none }
def MoveNearWrongFalsely : Prop := moveNearRow.holds Tryd.pinned (OpenSpec.ofChange moveNearWrong)

/-- 'meridianlaw3.MountHears': WHATEVER THE INPUT: true; the input reads as it did. -/
def mountHearsSpec : ChangeSpec := { name := "mountHears", fn := fun _ => fun
  | [d1, d2, d3, d4] => { results := [.lit (.bool true)], args := [d1, d2, d3, d4] }
  | _ => none }
def mountHearsRow : OpenClaim := { program := "ytlfpfeidaohjmaadoor", sum := "579f86b1f354307b3f70aa4f657b4b37da70d9fb1b573029ecc1219ca6b36bed", func := "meridian/meridianlaw3.MountHears", spec := "mountHears", inPlace := ["internal/reflectlite.ValueOf", "(internal/reflectlite.Value).Type", "(internal/reflectlite.Value).IsNil", "internal/reflectlite.TypeOf", "(internal/reflectlite.Value).Elem", "(internal/reflectlite.Value).Set"], unfollowed := true, recurses := true, named := ["meridian/api.ErrShape", "meridian/api.ErrBound", "meridian/api.ErrState", "meridian/api.ErrLimit", "meridian/api.ErrName", "meridian/api.ErrText", "meridian/api.ErrTime", "meridian/api.ErrTable", "meridian/api.ErrFile", "meridian/api.ErrNone", "errors.errorType"], apart := false, laid := [("errors.errorType", laid_errors_errorType), ("meridian/api.ErrText", laid_meridian_api_ErrText), ("meridian/api.ErrBound", laid_meridian_api_ErrBound), ("meridian/api.ErrTime", laid_meridian_api_ErrTime), ("meridian/api.ErrTable", laid_meridian_api_ErrTable), ("meridian/api.ErrShape", laid_meridian_api_ErrShape), ("meridian/api.ErrLimit", laid_meridian_api_ErrLimit), ("meridian/api.ErrState", laid_meridian_api_ErrState), ("meridian/api.ErrFile", laid_meridian_api_ErrFile), ("meridian/api.ErrNone", laid_meridian_api_ErrNone), ("meridian/api.ErrName", laid_meridian_api_ErrName)] }
def MountHearsSaid : Prop := mountHearsRow.holds Tryd.pinned (OpenSpec.ofChange mountHearsSpec)

/-- ITS FALSE NEIGHBOUR: 'it returns false'. Refute it at one input. -/
def mountHearsWrong : ChangeSpec := { name := "mountHears", fn := fun _ => fun
  | [d1, d2, d3, d4] => { results := [.lit (.bool false)], args := [d1, d2, d3, d4] }
  | _ => none }
def MountHearsWrongFalsely : Prop := mountHearsRow.holds Tryd.pinned (OpenSpec.ofChange mountHearsWrong)

/-- 'meridianlaw3.EventSpans': WHATEVER THE INPUT: true; the input reads as it did. -/
def eventSpansSpec : ChangeSpec := { name := "eventSpans", fn := fun _ => fun
  | [d1, d2] => { results := [.lit (.bool true)], args := [d1, d2] }
  | _ => none }
def eventSpansRow : OpenClaim := { program := "ytlfpfeidaohjmaadoor", sum := "579f86b1f354307b3f70aa4f657b4b37da70d9fb1b573029ecc1219ca6b36bed", func := "meridian/meridianlaw3.EventSpans", spec := "eventSpans", inPlace := ["internal/reflectlite.ValueOf", "(internal/reflectlite.Value).Type", "(internal/reflectlite.Value).IsNil", "internal/reflectlite.TypeOf", "(internal/reflectlite.Value).Elem", "(internal/reflectlite.Value).Set"], unfollowed := true, recurses := true, named := ["meridian/api.ErrBound", "meridian/api.ErrShape", "meridian/api.ErrText", "meridian/api.ErrTime", "meridian/api.ErrTable", "meridian/api.ErrLimit", "meridian/api.ErrState", "meridian/api.ErrFile", "meridian/api.ErrNone", "meridian/api.ErrName", "errors.errorType"], apart := false, laid := [("errors.errorType", laid_errors_errorType), ("meridian/api.ErrText", laid_meridian_api_ErrText), ("meridian/api.ErrBound", laid_meridian_api_ErrBound), ("meridian/api.ErrTime", laid_meridian_api_ErrTime), ("meridian/api.ErrTable", laid_meridian_api_ErrTable), ("meridian/api.ErrShape", laid_meridian_api_ErrShape), ("meridian/api.ErrLimit", laid_meridian_api_ErrLimit), ("meridian/api.ErrState", laid_meridian_api_ErrState), ("meridian/api.ErrFile", laid_meridian_api_ErrFile), ("meridian/api.ErrNone", laid_meridian_api_ErrNone), ("meridian/api.ErrName", laid_meridian_api_ErrName)] }
def EventSpansSaid : Prop := eventSpansRow.holds Tryd.pinned (OpenSpec.ofChange eventSpansSpec)

/-- ITS FALSE NEIGHBOUR: 'it returns false'. Refute it at one input. -/
def eventSpansWrong : ChangeSpec := { name := "eventSpans", fn := fun _ => fun
  | [d1, d2] => { results := [.lit (.bool false)], args := [d1, d2] }
  | _ => none }
def EventSpansWrongFalsely : Prop := eventSpansRow.holds Tryd.pinned (OpenSpec.ofChange eventSpansWrong)

/-- 'meridianlaw3.EventAll': WHATEVER THE INPUT: true; the input reads as it did. -/
def eventAllSpec : ChangeSpec := { name := "eventAll", fn := fun _ => fun
  | [d1, d2, d3] => { results := [.lit (.bool true)], args := [d1, d2, d3] }
  | _ => none }
def eventAllRow : OpenClaim := { program := "ytlfpfeidaohjmaadoor", sum := "579f86b1f354307b3f70aa4f657b4b37da70d9fb1b573029ecc1219ca6b36bed", func := "meridian/meridianlaw3.EventAll", spec := "eventAll", inPlace := ["internal/reflectlite.ValueOf", "(internal/reflectlite.Value).Type", "(internal/reflectlite.Value).IsNil", "internal/reflectlite.TypeOf", "(internal/reflectlite.Value).Elem", "(internal/reflectlite.Value).Set"], unfollowed := true, recurses := true, named := ["meridian/api.ErrBound", "meridian/api.ErrTime", "meridian/api.ErrShape", "math/bits.divideError", "math/bits.overflowError", "meridian/api.ErrText", "meridian/api.ErrTable", "meridian/api.ErrLimit", "meridian/api.ErrState", "meridian/api.ErrFile", "meridian/api.ErrNone", "meridian/api.ErrName", "errors.errorType"], apart := false, laid := [("errors.errorType", laid_errors_errorType), ("meridian/api.ErrText", laid_meridian_api_ErrText), ("meridian/api.ErrBound", laid_meridian_api_ErrBound), ("meridian/api.ErrTime", laid_meridian_api_ErrTime), ("meridian/api.ErrTable", laid_meridian_api_ErrTable), ("meridian/api.ErrShape", laid_meridian_api_ErrShape), ("meridian/api.ErrLimit", laid_meridian_api_ErrLimit), ("meridian/api.ErrState", laid_meridian_api_ErrState), ("meridian/api.ErrFile", laid_meridian_api_ErrFile), ("meridian/api.ErrNone", laid_meridian_api_ErrNone), ("meridian/api.ErrName", laid_meridian_api_ErrName)] }
def EventAllSaid : Prop := eventAllRow.holds Tryd.pinned (OpenSpec.ofChange eventAllSpec)

/-- ITS FALSE NEIGHBOUR: 'it returns false'. Refute it at one input. -/
def eventAllWrong : ChangeSpec := { name := "eventAll", fn := fun _ => fun
  | [d1, d2, d3] => { results := [.lit (.bool false)], args := [d1, d2, d3] }
  | _ => none }
def EventAllWrongFalsely : Prop := eventAllRow.holds Tryd.pinned (OpenSpec.ofChange eventAllWrong)

/-- 'meridianlaw3.EventHeights': WHATEVER THE INPUT: true; the input reads as it did. -/
def eventHeightsSpec : ChangeSpec := { name := "eventHeights", fn := fun _ => fun
  | [d1, d2] => { results := [.lit (.bool true)], args := [d1, d2] }
  | _ => none }
def eventHeightsRow : OpenClaim := { program := "ytlfpfeidaohjmaadoor", sum := "579f86b1f354307b3f70aa4f657b4b37da70d9fb1b573029ecc1219ca6b36bed", func := "meridian/meridianlaw3.EventHeights", spec := "eventHeights", inPlace := ["internal/reflectlite.ValueOf", "(internal/reflectlite.Value).Type", "(internal/reflectlite.Value).IsNil", "internal/reflectlite.TypeOf", "(internal/reflectlite.Value).Elem", "(internal/reflectlite.Value).Set"], unfollowed := true, recurses := true, named := ["meridian/api.ErrBound", "meridian/api.ErrTime", "meridian/api.ErrShape", "math/bits.divideError", "math/bits.overflowError", "meridian/api.ErrText", "meridian/api.ErrTable", "meridian/api.ErrLimit", "meridian/api.ErrState", "meridian/api.ErrFile", "meridian/api.ErrNone", "meridian/api.ErrName", "errors.errorType"], apart := false, laid := [("errors.errorType", laid_errors_errorType), ("meridian/api.ErrText", laid_meridian_api_ErrText), ("meridian/api.ErrBound", laid_meridian_api_ErrBound), ("meridian/api.ErrTime", laid_meridian_api_ErrTime), ("meridian/api.ErrTable", laid_meridian_api_ErrTable), ("meridian/api.ErrShape", laid_meridian_api_ErrShape), ("meridian/api.ErrLimit", laid_meridian_api_ErrLimit), ("meridian/api.ErrState", laid_meridian_api_ErrState), ("meridian/api.ErrFile", laid_meridian_api_ErrFile), ("meridian/api.ErrNone", laid_meridian_api_ErrNone), ("meridian/api.ErrName", laid_meridian_api_ErrName)] }
def EventHeightsSaid : Prop := eventHeightsRow.holds Tryd.pinned (OpenSpec.ofChange eventHeightsSpec)

/-- ITS FALSE NEIGHBOUR: 'it returns false'. Refute it at one input. -/
def eventHeightsWrong : ChangeSpec := { name := "eventHeights", fn := fun _ => fun
  | [d1, d2] => { results := [.lit (.bool false)], args := [d1, d2] }
  | _ => none }
def EventHeightsWrongFalsely : Prop := eventHeightsRow.holds Tryd.pinned (OpenSpec.ofChange eventHeightsWrong)

/-- 'meridianlaw3.EventWindows': WHATEVER THE INPUT: true; the input reads as it did. -/
def eventWindowsSpec : ChangeSpec := { name := "eventWindows", fn := fun _ => fun
  | [d1, d2, d3] => { results := [.lit (.bool true)], args := [d1, d2, d3] }
  | _ => none }
def eventWindowsRow : OpenClaim := { program := "ytlfpfeidaohjmaadoor", sum := "579f86b1f354307b3f70aa4f657b4b37da70d9fb1b573029ecc1219ca6b36bed", func := "meridian/meridianlaw3.EventWindows", spec := "eventWindows", inPlace := ["internal/reflectlite.ValueOf", "(internal/reflectlite.Value).Type", "(internal/reflectlite.Value).IsNil", "internal/reflectlite.TypeOf", "(internal/reflectlite.Value).Elem", "(internal/reflectlite.Value).Set"], unfollowed := true, recurses := true, named := ["meridian/api.ErrBound", "meridian/api.ErrTime", "meridian/api.ErrShape", "math/bits.divideError", "math/bits.overflowError", "meridian/api.ErrText", "meridian/api.ErrTable", "meridian/api.ErrLimit", "meridian/api.ErrState", "meridian/api.ErrFile", "meridian/api.ErrNone", "meridian/api.ErrName", "errors.errorType"], apart := false, laid := [("errors.errorType", laid_errors_errorType), ("meridian/api.ErrText", laid_meridian_api_ErrText), ("meridian/api.ErrBound", laid_meridian_api_ErrBound), ("meridian/api.ErrTime", laid_meridian_api_ErrTime), ("meridian/api.ErrTable", laid_meridian_api_ErrTable), ("meridian/api.ErrShape", laid_meridian_api_ErrShape), ("meridian/api.ErrLimit", laid_meridian_api_ErrLimit), ("meridian/api.ErrState", laid_meridian_api_ErrState), ("meridian/api.ErrFile", laid_meridian_api_ErrFile), ("meridian/api.ErrNone", laid_meridian_api_ErrNone), ("meridian/api.ErrName", laid_meridian_api_ErrName)] }
def EventWindowsSaid : Prop := eventWindowsRow.holds Tryd.pinned (OpenSpec.ofChange eventWindowsSpec)

/-- ITS FALSE NEIGHBOUR: 'it returns false'. Refute it at one input. -/
def eventWindowsWrong : ChangeSpec := { name := "eventWindows", fn := fun _ => fun
  | [d1, d2, d3] => { results := [.lit (.bool false)], args := [d1, d2, d3] }
  | _ => none }
def EventWindowsWrongFalsely : Prop := eventWindowsRow.holds Tryd.pinned (OpenSpec.ofChange eventWindowsWrong)

/- THE SECOND FORM. 'bulk': how many values and letters a reading holds, each counted each time it is reached (what is shared counts as often as it is met; a slice's spare places count too). A statement '..UptoSaid' is the law's where the arguments, and the package variables that the reading takes, are together of bulk at most 1048576: NARROWER than '..Said'. Prove '..Said' where nothing that the law and all that it calls make is longer than what came in: it says more and counts as full. Else prove '..UptoSaid'. A law counts once. -/
mutual
def uptoBulk {H : Type} : DataW H → Nat
  | .lit (.string bytes) => bytes.length + 1
  | .lit _ => 1
  | .nil => 1
  | .ptr d => uptoBulk d + 1
  | .slice elems spare => uptoBulkAll elems + uptoBulkAll spare + 1
  | .agg parts => uptoBulkAll parts + 1
  | .iface _ d => uptoBulk d + 1
  | .map entries => uptoBulkEntries entries + 1
  | .held _ => 1
def uptoBulkAll {H : Type} : List (DataW H) → Nat
  | [] => 0
  | d :: r => uptoBulk d + uptoBulkAll r
def uptoBulkEntries {H : Type} : List (Lit × DataW H) → Nat
  | [] => 0
  | x :: r => uptoBulkEntry x + uptoBulkEntries r
def uptoBulkEntry {H : Type} : Lit × DataW H → Nat
  | (.string bytes, d) => bytes.length + uptoBulk d + 1
  | (_, d) => uptoBulk d + 1
 end
def uptoSmall : (H : Type) → List (DataW H) → Bool := fun _ ds => decide (uptoBulkAll ds ≤ 1048576)
def OpenSpec.upto (s : _root_.Go.ChangeSpec) : _root_.Go.OpenSpec := { _root_.Go.OpenSpec.ofChange s with cond := some uptoSmall }

/-- 'meridianlaw3.MoveBack', WHERE WHAT IT READS IS OF BULK AT MOST 1048576: true; the input reads as it did. -/
def moveBackUptoRow : OpenClaim := { program := "ytlfpfeidaohjmaadoor", sum := "579f86b1f354307b3f70aa4f657b4b37da70d9fb1b573029ecc1219ca6b36bed", func := "meridian/meridianlaw3.MoveBack", spec := "moveBack", unfollowed := true, recurses := true, named := ["meridian/api.ErrBound", "meridian/api.ErrLimit", "meridian/api.ErrShape"], apart := false, laid := [("meridian/api.ErrBound", laid_meridian_api_ErrBound), ("meridian/api.ErrShape", laid_meridian_api_ErrShape), ("meridian/api.ErrLimit", laid_meridian_api_ErrLimit)], narrowed := true }
def MoveBackUptoSaid : Prop := moveBackUptoRow.holds Tryd.pinned (OpenSpec.upto moveBackSpec)

/-- 'meridianlaw3.MovePush', WHERE WHAT IT READS IS OF BULK AT MOST 1048576: true; the input reads as it did. -/
def movePushUptoRow : OpenClaim := { program := "ytlfpfeidaohjmaadoor", sum := "579f86b1f354307b3f70aa4f657b4b37da70d9fb1b573029ecc1219ca6b36bed", func := "meridian/meridianlaw3.MovePush", spec := "movePush", unfollowed := true, recurses := true, named := ["meridian/api.ErrBound", "meridian/api.ErrLimit", "meridian/api.ErrShape"], apart := false, laid := [("meridian/api.ErrBound", laid_meridian_api_ErrBound), ("meridian/api.ErrShape", laid_meridian_api_ErrShape), ("meridian/api.ErrLimit", laid_meridian_api_ErrLimit)], narrowed := true }
def MovePushUptoSaid : Prop := movePushUptoRow.holds Tryd.pinned (OpenSpec.upto movePushSpec)

/-- 'meridianlaw3.MountSafe', WHERE WHAT IT READS IS OF BULK AT MOST 1048576: true; the input reads as it did. -/
def mountSafeUptoRow : OpenClaim := { program := "ytlfpfeidaohjmaadoor", sum := "579f86b1f354307b3f70aa4f657b4b37da70d9fb1b573029ecc1219ca6b36bed", func := "meridian/meridianlaw3.MountSafe", spec := "mountSafe", named := ["meridian/api.ErrShape", "meridian/api.ErrBound", "meridian/api.ErrState", "meridian/api.ErrLimit", "meridian/api.ErrName"], apart := false, laid := [("meridian/api.ErrBound", laid_meridian_api_ErrBound), ("meridian/api.ErrShape", laid_meridian_api_ErrShape), ("meridian/api.ErrLimit", laid_meridian_api_ErrLimit), ("meridian/api.ErrState", laid_meridian_api_ErrState), ("meridian/api.ErrName", laid_meridian_api_ErrName)], narrowed := true }
def MountSafeUptoSaid : Prop := mountSafeUptoRow.holds Tryd.pinned (OpenSpec.upto mountSafeSpec)

/-- 'meridianlaw3.MoveRuns', WHERE WHAT IT READS IS OF BULK AT MOST 1048576: true; the input reads as it did. -/
def moveRunsUptoRow : OpenClaim := { program := "ytlfpfeidaohjmaadoor", sum := "579f86b1f354307b3f70aa4f657b4b37da70d9fb1b573029ecc1219ca6b36bed", func := "meridian/meridianlaw3.MoveRuns", spec := "moveRuns", inPlace := ["internal/reflectlite.ValueOf", "(internal/reflectlite.Value).Type", "(internal/reflectlite.Value).IsNil", "internal/reflectlite.TypeOf", "(internal/reflectlite.Value).Elem", "(internal/reflectlite.Value).Set"], unfollowed := true, recurses := true, named := ["meridian/api.ErrBound", "meridian/api.ErrLimit", "meridian/api.ErrShape", "meridian/api.ErrText", "meridian/api.ErrTime", "meridian/api.ErrTable", "meridian/api.ErrState", "meridian/api.ErrFile", "meridian/api.ErrNone", "meridian/api.ErrName", "errors.errorType"], apart := false, laid := [("errors.errorType", laid_errors_errorType), ("meridian/api.ErrText", laid_meridian_api_ErrText), ("meridian/api.ErrBound", laid_meridian_api_ErrBound), ("meridian/api.ErrTime", laid_meridian_api_ErrTime), ("meridian/api.ErrTable", laid_meridian_api_ErrTable), ("meridian/api.ErrShape", laid_meridian_api_ErrShape), ("meridian/api.ErrLimit", laid_meridian_api_ErrLimit), ("meridian/api.ErrState", laid_meridian_api_ErrState), ("meridian/api.ErrFile", laid_meridian_api_ErrFile), ("meridian/api.ErrNone", laid_meridian_api_ErrNone), ("meridian/api.ErrName", laid_meridian_api_ErrName)], narrowed := true }
def MoveRunsUptoSaid : Prop := moveRunsUptoRow.holds Tryd.pinned (OpenSpec.upto moveRunsSpec)

/-- 'meridianlaw3.MountTakes', WHERE WHAT IT READS IS OF BULK AT MOST 1048576: true; the input reads as it did. -/
def mountTakesUptoRow : OpenClaim := { program := "ytlfpfeidaohjmaadoor", sum := "579f86b1f354307b3f70aa4f657b4b37da70d9fb1b573029ecc1219ca6b36bed", func := "meridian/meridianlaw3.MountTakes", spec := "mountTakes", inPlace := ["internal/reflectlite.ValueOf", "(internal/reflectlite.Value).Type", "(internal/reflectlite.Value).IsNil", "internal/reflectlite.TypeOf", "(internal/reflectlite.Value).Elem", "(internal/reflectlite.Value).Set"], unfollowed := true, recurses := true, named := ["meridian/api.ErrShape", "meridian/api.ErrBound", "meridian/api.ErrText", "meridian/api.ErrTime", "meridian/api.ErrTable", "meridian/api.ErrLimit", "meridian/api.ErrState", "meridian/api.ErrFile", "meridian/api.ErrNone", "meridian/api.ErrName", "errors.errorType"], apart := false, laid := [("errors.errorType", laid_errors_errorType), ("meridian/api.ErrText", laid_meridian_api_ErrText), ("meridian/api.ErrBound", laid_meridian_api_ErrBound), ("meridian/api.ErrTime", laid_meridian_api_ErrTime), ("meridian/api.ErrTable", laid_meridian_api_ErrTable), ("meridian/api.ErrShape", laid_meridian_api_ErrShape), ("meridian/api.ErrLimit", laid_meridian_api_ErrLimit), ("meridian/api.ErrState", laid_meridian_api_ErrState), ("meridian/api.ErrFile", laid_meridian_api_ErrFile), ("meridian/api.ErrNone", laid_meridian_api_ErrNone), ("meridian/api.ErrName", laid_meridian_api_ErrName)], narrowed := true }
def MountTakesUptoSaid : Prop := mountTakesUptoRow.holds Tryd.pinned (OpenSpec.upto mountTakesSpec)

/-- 'meridianlaw3.MoveNear', WHERE WHAT IT READS IS OF BULK AT MOST 1048576: true; the input reads as it did. -/
def moveNearUptoRow : OpenClaim := { program := "ytlfpfeidaohjmaadoor", sum := "579f86b1f354307b3f70aa4f657b4b37da70d9fb1b573029ecc1219ca6b36bed", func := "meridian/meridianlaw3.MoveNear", spec := "moveNear", inPlace := ["internal/reflectlite.ValueOf", "(internal/reflectlite.Value).Type", "(internal/reflectlite.Value).IsNil", "internal/reflectlite.TypeOf", "(internal/reflectlite.Value).Elem", "(internal/reflectlite.Value).Set"], unfollowed := true, recurses := true, named := ["meridian/api.ErrBound", "meridian/api.ErrLimit", "meridian/api.ErrShape", "meridian/api.ErrNone", "meridian/api.ErrText", "meridian/api.ErrTime", "meridian/api.ErrTable", "meridian/api.ErrState", "meridian/api.ErrFile", "meridian/api.ErrName", "errors.errorType"], apart := false, laid := [("errors.errorType", laid_errors_errorType), ("meridian/api.ErrText", laid_meridian_api_ErrText), ("meridian/api.ErrBound", laid_meridian_api_ErrBound), ("meridian/api.ErrTime", laid_meridian_api_ErrTime), ("meridian/api.ErrTable", laid_meridian_api_ErrTable), ("meridian/api.ErrShape", laid_meridian_api_ErrShape), ("meridian/api.ErrLimit", laid_meridian_api_ErrLimit), ("meridian/api.ErrState", laid_meridian_api_ErrState), ("meridian/api.ErrFile", laid_meridian_api_ErrFile), ("meridian/api.ErrNone", laid_meridian_api_ErrNone), ("meridian/api.ErrName", laid_meridian_api_ErrName)], narrowed := true }
def MoveNearUptoSaid : Prop := moveNearUptoRow.holds Tryd.pinned (OpenSpec.upto moveNearSpec)

/-- 'meridianlaw3.MountHears', WHERE WHAT IT READS IS OF BULK AT MOST 1048576: true; the input reads as it did. -/
def mountHearsUptoRow : OpenClaim := { program := "ytlfpfeidaohjmaadoor", sum := "579f86b1f354307b3f70aa4f657b4b37da70d9fb1b573029ecc1219ca6b36bed", func := "meridian/meridianlaw3.MountHears", spec := "mountHears", inPlace := ["internal/reflectlite.ValueOf", "(internal/reflectlite.Value).Type", "(internal/reflectlite.Value).IsNil", "internal/reflectlite.TypeOf", "(internal/reflectlite.Value).Elem", "(internal/reflectlite.Value).Set"], unfollowed := true, recurses := true, named := ["meridian/api.ErrShape", "meridian/api.ErrBound", "meridian/api.ErrState", "meridian/api.ErrLimit", "meridian/api.ErrName", "meridian/api.ErrText", "meridian/api.ErrTime", "meridian/api.ErrTable", "meridian/api.ErrFile", "meridian/api.ErrNone", "errors.errorType"], apart := false, laid := [("errors.errorType", laid_errors_errorType), ("meridian/api.ErrText", laid_meridian_api_ErrText), ("meridian/api.ErrBound", laid_meridian_api_ErrBound), ("meridian/api.ErrTime", laid_meridian_api_ErrTime), ("meridian/api.ErrTable", laid_meridian_api_ErrTable), ("meridian/api.ErrShape", laid_meridian_api_ErrShape), ("meridian/api.ErrLimit", laid_meridian_api_ErrLimit), ("meridian/api.ErrState", laid_meridian_api_ErrState), ("meridian/api.ErrFile", laid_meridian_api_ErrFile), ("meridian/api.ErrNone", laid_meridian_api_ErrNone), ("meridian/api.ErrName", laid_meridian_api_ErrName)], narrowed := true }
def MountHearsUptoSaid : Prop := mountHearsUptoRow.holds Tryd.pinned (OpenSpec.upto mountHearsSpec)

/-- 'meridianlaw3.EventSpans', WHERE WHAT IT READS IS OF BULK AT MOST 1048576: true; the input reads as it did. -/
def eventSpansUptoRow : OpenClaim := { program := "ytlfpfeidaohjmaadoor", sum := "579f86b1f354307b3f70aa4f657b4b37da70d9fb1b573029ecc1219ca6b36bed", func := "meridian/meridianlaw3.EventSpans", spec := "eventSpans", inPlace := ["internal/reflectlite.ValueOf", "(internal/reflectlite.Value).Type", "(internal/reflectlite.Value).IsNil", "internal/reflectlite.TypeOf", "(internal/reflectlite.Value).Elem", "(internal/reflectlite.Value).Set"], unfollowed := true, recurses := true, named := ["meridian/api.ErrBound", "meridian/api.ErrShape", "meridian/api.ErrText", "meridian/api.ErrTime", "meridian/api.ErrTable", "meridian/api.ErrLimit", "meridian/api.ErrState", "meridian/api.ErrFile", "meridian/api.ErrNone", "meridian/api.ErrName", "errors.errorType"], apart := false, laid := [("errors.errorType", laid_errors_errorType), ("meridian/api.ErrText", laid_meridian_api_ErrText), ("meridian/api.ErrBound", laid_meridian_api_ErrBound), ("meridian/api.ErrTime", laid_meridian_api_ErrTime), ("meridian/api.ErrTable", laid_meridian_api_ErrTable), ("meridian/api.ErrShape", laid_meridian_api_ErrShape), ("meridian/api.ErrLimit", laid_meridian_api_ErrLimit), ("meridian/api.ErrState", laid_meridian_api_ErrState), ("meridian/api.ErrFile", laid_meridian_api_ErrFile), ("meridian/api.ErrNone", laid_meridian_api_ErrNone), ("meridian/api.ErrName", laid_meridian_api_ErrName)], narrowed := true }
def EventSpansUptoSaid : Prop := eventSpansUptoRow.holds Tryd.pinned (OpenSpec.upto eventSpansSpec)

/-- 'meridianlaw3.EventAll', WHERE WHAT IT READS IS OF BULK AT MOST 1048576: true; the input reads as it did. -/
def eventAllUptoRow : OpenClaim := { program := "ytlfpfeidaohjmaadoor", sum := "579f86b1f354307b3f70aa4f657b4b37da70d9fb1b573029ecc1219ca6b36bed", func := "meridian/meridianlaw3.EventAll", spec := "eventAll", inPlace := ["internal/reflectlite.ValueOf", "(internal/reflectlite.Value).Type", "(internal/reflectlite.Value).IsNil", "internal/reflectlite.TypeOf", "(internal/reflectlite.Value).Elem", "(internal/reflectlite.Value).Set"], unfollowed := true, recurses := true, named := ["meridian/api.ErrBound", "meridian/api.ErrTime", "meridian/api.ErrShape", "math/bits.divideError", "math/bits.overflowError", "meridian/api.ErrText", "meridian/api.ErrTable", "meridian/api.ErrLimit", "meridian/api.ErrState", "meridian/api.ErrFile", "meridian/api.ErrNone", "meridian/api.ErrName", "errors.errorType"], apart := false, laid := [("errors.errorType", laid_errors_errorType), ("meridian/api.ErrText", laid_meridian_api_ErrText), ("meridian/api.ErrBound", laid_meridian_api_ErrBound), ("meridian/api.ErrTime", laid_meridian_api_ErrTime), ("meridian/api.ErrTable", laid_meridian_api_ErrTable), ("meridian/api.ErrShape", laid_meridian_api_ErrShape), ("meridian/api.ErrLimit", laid_meridian_api_ErrLimit), ("meridian/api.ErrState", laid_meridian_api_ErrState), ("meridian/api.ErrFile", laid_meridian_api_ErrFile), ("meridian/api.ErrNone", laid_meridian_api_ErrNone), ("meridian/api.ErrName", laid_meridian_api_ErrName)], narrowed := true }
def EventAllUptoSaid : Prop := eventAllUptoRow.holds Tryd.pinned (OpenSpec.upto eventAllSpec)

/-- 'meridianlaw3.EventHeights', WHERE WHAT IT READS IS OF BULK AT MOST 1048576: true; the input reads as it did. -/
def eventHeightsUptoRow : OpenClaim := { program := "ytlfpfeidaohjmaadoor", sum := "579f86b1f354307b3f70aa4f657b4b37da70d9fb1b573029ecc1219ca6b36bed", func := "meridian/meridianlaw3.EventHeights", spec := "eventHeights", inPlace := ["internal/reflectlite.ValueOf", "(internal/reflectlite.Value).Type", "(internal/reflectlite.Value).IsNil", "internal/reflectlite.TypeOf", "(internal/reflectlite.Value).Elem", "(internal/reflectlite.Value).Set"], unfollowed := true, recurses := true, named := ["meridian/api.ErrBound", "meridian/api.ErrTime", "meridian/api.ErrShape", "math/bits.divideError", "math/bits.overflowError", "meridian/api.ErrText", "meridian/api.ErrTable", "meridian/api.ErrLimit", "meridian/api.ErrState", "meridian/api.ErrFile", "meridian/api.ErrNone", "meridian/api.ErrName", "errors.errorType"], apart := false, laid := [("errors.errorType", laid_errors_errorType), ("meridian/api.ErrText", laid_meridian_api_ErrText), ("meridian/api.ErrBound", laid_meridian_api_ErrBound), ("meridian/api.ErrTime", laid_meridian_api_ErrTime), ("meridian/api.ErrTable", laid_meridian_api_ErrTable), ("meridian/api.ErrShape", laid_meridian_api_ErrShape), ("meridian/api.ErrLimit", laid_meridian_api_ErrLimit), ("meridian/api.ErrState", laid_meridian_api_ErrState), ("meridian/api.ErrFile", laid_meridian_api_ErrFile), ("meridian/api.ErrNone", laid_meridian_api_ErrNone), ("meridian/api.ErrName", laid_meridian_api_ErrName)], narrowed := true }
def EventHeightsUptoSaid : Prop := eventHeightsUptoRow.holds Tryd.pinned (OpenSpec.upto eventHeightsSpec)

/-- 'meridianlaw3.EventWindows', WHERE WHAT IT READS IS OF BULK AT MOST 1048576: true; the input reads as it did. -/
def eventWindowsUptoRow : OpenClaim := { program := "ytlfpfeidaohjmaadoor", sum := "579f86b1f354307b3f70aa4f657b4b37da70d9fb1b573029ecc1219ca6b36bed", func := "meridian/meridianlaw3.EventWindows", spec := "eventWindows", inPlace := ["internal/reflectlite.ValueOf", "(internal/reflectlite.Value).Type", "(internal/reflectlite.Value).IsNil", "internal/reflectlite.TypeOf", "(internal/reflectlite.Value).Elem", "(internal/reflectlite.Value).Set"], unfollowed := true, recurses := true, named := ["meridian/api.ErrBound", "meridian/api.ErrTime", "meridian/api.ErrShape", "math/bits.divideError", "math/bits.overflowError", "meridian/api.ErrText", "meridian/api.ErrTable", "meridian/api.ErrLimit", "meridian/api.ErrState", "meridian/api.ErrFile", "meridian/api.ErrNone", "meridian/api.ErrName", "errors.errorType"], apart := false, laid := [("errors.errorType", laid_errors_errorType), ("meridian/api.ErrText", laid_meridian_api_ErrText), ("meridian/api.ErrBound", laid_meridian_api_ErrBound), ("meridian/api.ErrTime", laid_meridian_api_ErrTime), ("meridian/api.ErrTable", laid_meridian_api_ErrTable), ("meridian/api.ErrShape", laid_meridian_api_ErrShape), ("meridian/api.ErrLimit", laid_meridian_api_ErrLimit), ("meridian/api.ErrState", laid_meridian_api_ErrState), ("meridian/api.ErrFile", laid_meridian_api_ErrFile), ("meridian/api.ErrNone", laid_meridian_api_ErrNone), ("meridian/api.ErrName", laid_meridian_api_ErrName)], narrowed := true }
def EventWindowsUptoSaid : Prop := eventWindowsUptoRow.holds Tryd.pinned (OpenSpec.upto eventWindowsSpec)

end Rows
end Go.Proofs.YtlfpfeidaohjmaaDoor
