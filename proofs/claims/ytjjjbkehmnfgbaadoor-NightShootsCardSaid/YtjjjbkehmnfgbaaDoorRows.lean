/-
  NARROWER THAN 'FOR EVERY INPUT', by the rows' own cells (each row's printed sentence says how): NightBest: laid · NightChecks: laid · AtlasCells: laid · NightShoots: laid.
  DERIVED. THE GIVEN ROWS OF THIS SEAT. 4 by the template 'for every input the law returns true; each argument reads behind the call as it read before'; 0 by the template 'total and deterministic' (their statements: YtjjjbkehmnfgbaaDoorTotals.lean).
  GIVEN WITH THE SEED: the statements are not yours to turn. If you find one false, say at which input.
  Laid BY PROGRAM, IN A SANDBOX (cutbox-rows.mjs): the forced cells as the released guide's own fill.sh prints them over the translation ff3b0627bbf95c4f… (all of the seat's roots in one cut). By AI agents, Wed Nov 11 2026. No macro, syntax, notation, axiom, sorry.
-/
import Derived.Test.YtjjjbkehmnfgbaaDoorChecked
import GoSem.Claim
import GoSem.ClaimJoined
import GoSem.ClaimMapViews
import Derived.JoinedTies
import Derived.KernelRfl
namespace Go.Proofs.YtjjjbkehmnfgbaaDoor
/- THE CELL 'sum', in the pinned program and in every row, IS THE sha256 OF THE DUMP (.gsa) THAT YtjjjbkehmnfgbaaDoorProg.lean LOADS. Nothing in Lean hashes anything: it is a label: what it is worth is what the hold of that sum in a sandbox is worth. -/
noncomputable def Tryd.pinned : Pinned := { name := "ytjjjbkehmnfgbaadoor", sum := "ff3b0627bbf95c4f8b6f8325feda3847431cd615a0c60ec53673ac971db944af", checked := Tryd.checked }
namespace Rows
def none {H : Type} : Left H := { results := [], args := [] }

/- WHAT THE LISTED PACKAGE-LEVEL VARIABLES READ AS WHEN THE CALL BEGINS. Each datum BY PROGRAM (the guide's laid-datum.mjs) off the statement by which the dump's own 'gosem.cut.vars' lays the variable. In a bare row this is a premise. The card (YtjjjbkehmnfgbaaDoorCards.lean) ties it to the program's text. -/
def laid_errors_errorType {H : Type} : DataW H := .iface "internal/reflectlite.rtype" (.agg [.ptr (.lit (.string [101, 114, 114, 111, 114]))])
def laid_meridian_api_ErrText {H : Type} : DataW H := .iface "*errors.errorString" (.ptr (.agg [.lit (.string [109, 101, 114, 105, 100, 105, 97, 110, 58, 32, 116, 101, 120, 116])]))
def laid_meridian_api_ErrBound {H : Type} : DataW H := .iface "*errors.errorString" (.ptr (.agg [.lit (.string [109, 101, 114, 105, 100, 105, 97, 110, 58, 32, 98, 111, 117, 110, 100])]))
def laid_meridian_api_ErrTime {H : Type} : DataW H := .iface "*errors.errorString" (.ptr (.agg [.lit (.string [109, 101, 114, 105, 100, 105, 97, 110, 58, 32, 116, 105, 109, 101])]))
def laid_meridian_api_ErrTable {H : Type} : DataW H := .iface "*errors.errorString" (.ptr (.agg [.lit (.string [109, 101, 114, 105, 100, 105, 97, 110, 58, 32, 116, 97, 98, 108, 101])]))
def laid_meridian_api_ErrShape {H : Type} : DataW H := .iface "*errors.errorString" (.ptr (.agg [.lit (.string [109, 101, 114, 105, 100, 105, 97, 110, 58, 32, 115, 104, 97, 112, 101])]))
def laid_meridian_api_ErrLimit {H : Type} : DataW H := .iface "*errors.errorString" (.ptr (.agg [.lit (.string [109, 101, 114, 105, 100, 105, 97, 110, 58, 32, 108, 105, 109, 105, 116])]))
def laid_meridian_api_ErrState {H : Type} : DataW H := .iface "*errors.errorString" (.ptr (.agg [.lit (.string [109, 101, 114, 105, 100, 105, 97, 110, 58, 32, 115, 116, 97, 116, 101])]))
def laid_meridian_api_ErrFile {H : Type} : DataW H := .iface "*errors.errorString" (.ptr (.agg [.lit (.string [109, 101, 114, 105, 100, 105, 97, 110, 58, 32, 102, 105, 108, 101])]))
def laid_meridian_api_ErrNone {H : Type} : DataW H := .iface "*errors.errorString" (.ptr (.agg [.lit (.string [109, 101, 114, 105, 100, 105, 97, 110, 58, 32, 110, 111, 110, 101])]))
def laid_meridian_api_ErrName {H : Type} : DataW H := .iface "*errors.errorString" (.ptr (.agg [.lit (.string [109, 101, 114, 105, 100, 105, 97, 110, 58, 32, 110, 97, 109, 101])]))

/-- 'meridianlaw5.NightBest': WHATEVER THE INPUT: true; the input reads as it did. -/
def nightBestSpec : ChangeSpec := { name := "nightBest", fn := fun _ => fun
  | [d] => { results := [.lit (.bool true)], args := [d] }
  | _ => none }
def nightBestRow : OpenClaim := { program := "ytjjjbkehmnfgbaadoor", sum := "ff3b0627bbf95c4f8b6f8325feda3847431cd615a0c60ec53673ac971db944af", func := "meridian/meridianlaw5.NightBest", spec := "nightBest", inPlace := ["internal/reflectlite.ValueOf", "(internal/reflectlite.Value).Type", "(internal/reflectlite.Value).IsNil", "internal/reflectlite.TypeOf", "(internal/reflectlite.Value).Elem", "(internal/reflectlite.Value).Set"], unfollowed := true, recurses := true, named := ["meridian/api.ErrBound", "meridian/api.ErrName", "meridian/api.ErrShape", "meridian/api.ErrText", "meridian/api.ErrTime", "meridian/api.ErrTable", "meridian/api.ErrLimit", "meridian/api.ErrState", "meridian/api.ErrFile", "meridian/api.ErrNone", "errors.errorType"], plainKeys := false, apart := false, laid := [("errors.errorType", laid_errors_errorType), ("meridian/api.ErrText", laid_meridian_api_ErrText), ("meridian/api.ErrBound", laid_meridian_api_ErrBound), ("meridian/api.ErrTime", laid_meridian_api_ErrTime), ("meridian/api.ErrTable", laid_meridian_api_ErrTable), ("meridian/api.ErrShape", laid_meridian_api_ErrShape), ("meridian/api.ErrLimit", laid_meridian_api_ErrLimit), ("meridian/api.ErrState", laid_meridian_api_ErrState), ("meridian/api.ErrFile", laid_meridian_api_ErrFile), ("meridian/api.ErrNone", laid_meridian_api_ErrNone), ("meridian/api.ErrName", laid_meridian_api_ErrName)] }
def NightBestSaid : Prop := nightBestRow.holds Tryd.pinned (OpenSpec.ofChange nightBestSpec)

/-- ITS FALSE NEIGHBOUR: 'it returns false'. Refute it at one input. -/
def nightBestWrong : ChangeSpec := { name := "nightBest", fn := fun _ => fun
  | [d] => { results := [.lit (.bool false)], args := [d] }
  | _ => none }
def NightBestWrongFalsely : Prop := nightBestRow.holds Tryd.pinned (OpenSpec.ofChange nightBestWrong)

/-- 'meridianlaw5.NightChecks': WHATEVER THE INPUT: true; the input reads as it did. -/
def nightChecksSpec : ChangeSpec := { name := "nightChecks", fn := fun _ => fun
  | [d1, d2] => { results := [.lit (.bool true)], args := [d1, d2] }
  | _ => none }
def nightChecksRow : OpenClaim := { program := "ytjjjbkehmnfgbaadoor", sum := "ff3b0627bbf95c4f8b6f8325feda3847431cd615a0c60ec53673ac971db944af", func := "meridian/meridianlaw5.NightChecks", spec := "nightChecks", inPlace := ["internal/reflectlite.ValueOf", "(internal/reflectlite.Value).Type", "(internal/reflectlite.Value).IsNil", "internal/reflectlite.TypeOf", "(internal/reflectlite.Value).Elem", "(internal/reflectlite.Value).Set"], unfollowed := true, recurses := true, named := ["meridian/api.ErrBound", "meridian/api.ErrName", "meridian/api.ErrShape", "meridian/api.ErrText", "meridian/api.ErrTime", "meridian/api.ErrTable", "meridian/api.ErrLimit", "meridian/api.ErrState", "meridian/api.ErrFile", "meridian/api.ErrNone", "errors.errorType"], plainKeys := false, apart := false, laid := [("errors.errorType", laid_errors_errorType), ("meridian/api.ErrText", laid_meridian_api_ErrText), ("meridian/api.ErrBound", laid_meridian_api_ErrBound), ("meridian/api.ErrTime", laid_meridian_api_ErrTime), ("meridian/api.ErrTable", laid_meridian_api_ErrTable), ("meridian/api.ErrShape", laid_meridian_api_ErrShape), ("meridian/api.ErrLimit", laid_meridian_api_ErrLimit), ("meridian/api.ErrState", laid_meridian_api_ErrState), ("meridian/api.ErrFile", laid_meridian_api_ErrFile), ("meridian/api.ErrNone", laid_meridian_api_ErrNone), ("meridian/api.ErrName", laid_meridian_api_ErrName)] }
def NightChecksSaid : Prop := nightChecksRow.holds Tryd.pinned (OpenSpec.ofChange nightChecksSpec)

/-- ITS FALSE NEIGHBOUR: 'it returns false'. Refute it at one input. -/
def nightChecksWrong : ChangeSpec := { name := "nightChecks", fn := fun _ => fun
  | [d1, d2] => { results := [.lit (.bool false)], args := [d1, d2] }
  | _ => none }
def NightChecksWrongFalsely : Prop := nightChecksRow.holds Tryd.pinned (OpenSpec.ofChange nightChecksWrong)

/-- 'meridianlaw5.AtlasCells': WHATEVER THE INPUT: true; the input reads as it did. -/
def atlasCellsSpec : ChangeSpec := { name := "atlasCells", fn := fun _ => fun
  | [d1, d2, d3, d4] => { results := [.lit (.bool true)], args := [d1, d2, d3, d4] }
  | _ => none }
def atlasCellsRow : OpenClaim := { program := "ytjjjbkehmnfgbaadoor", sum := "ff3b0627bbf95c4f8b6f8325feda3847431cd615a0c60ec53673ac971db944af", func := "meridian/meridianlaw5.AtlasCells", spec := "atlasCells", inPlace := ["internal/reflectlite.ValueOf", "(internal/reflectlite.Value).Type", "(internal/reflectlite.Value).IsNil", "internal/reflectlite.TypeOf", "(internal/reflectlite.Value).Elem", "(internal/reflectlite.Value).Set"], unfollowed := true, recurses := true, named := ["meridian/api.ErrShape", "meridian/api.ErrBound", "meridian/api.ErrText", "meridian/api.ErrTime", "meridian/api.ErrTable", "meridian/api.ErrLimit", "meridian/api.ErrState", "meridian/api.ErrFile", "meridian/api.ErrNone", "meridian/api.ErrName", "errors.errorType"], plainKeys := false, apart := false, laid := [("errors.errorType", laid_errors_errorType), ("meridian/api.ErrText", laid_meridian_api_ErrText), ("meridian/api.ErrBound", laid_meridian_api_ErrBound), ("meridian/api.ErrTime", laid_meridian_api_ErrTime), ("meridian/api.ErrTable", laid_meridian_api_ErrTable), ("meridian/api.ErrShape", laid_meridian_api_ErrShape), ("meridian/api.ErrLimit", laid_meridian_api_ErrLimit), ("meridian/api.ErrState", laid_meridian_api_ErrState), ("meridian/api.ErrFile", laid_meridian_api_ErrFile), ("meridian/api.ErrNone", laid_meridian_api_ErrNone), ("meridian/api.ErrName", laid_meridian_api_ErrName)] }
def AtlasCellsSaid : Prop := atlasCellsRow.holds Tryd.pinned (OpenSpec.ofChange atlasCellsSpec)

/-- ITS FALSE NEIGHBOUR: 'it returns false'. Refute it at one input. -/
def atlasCellsWrong : ChangeSpec := { name := "atlasCells", fn := fun _ => fun
  | [d1, d2, d3, d4] => { results := [.lit (.bool false)], args := [d1, d2, d3, d4] }
  | _ => none }
def AtlasCellsWrongFalsely : Prop := atlasCellsRow.holds Tryd.pinned (OpenSpec.ofChange atlasCellsWrong)

/-- 'meridianlaw5.NightShoots': WHATEVER THE INPUT: true; the input reads as it did. -/
def nightShootsSpec : ChangeSpec := { name := "nightShoots", fn := fun _ => fun
  | [d1, d2] => { results := [.lit (.bool true)], args := [d1, d2] }
  | _ => none }
def nightShootsRow : OpenClaim := { program := "ytjjjbkehmnfgbaadoor", sum := "ff3b0627bbf95c4f8b6f8325feda3847431cd615a0c60ec53673ac971db944af", func := "meridian/meridianlaw5.NightShoots", spec := "nightShoots", inPlace := ["internal/reflectlite.ValueOf", "(internal/reflectlite.Value).Type", "(internal/reflectlite.Value).IsNil", "internal/reflectlite.TypeOf", "(internal/reflectlite.Value).Elem", "(internal/reflectlite.Value).Set", "internal/bytealg.abigen_runtime_cmpstring"], unfollowed := true, recurses := true, named := ["meridian/api.ErrName", "meridian/api.ErrShape", "meridian/api.ErrBound", "meridian/api.ErrText", "meridian/api.ErrTime", "meridian/api.ErrTable", "meridian/api.ErrLimit", "meridian/api.ErrState", "meridian/api.ErrFile", "meridian/api.ErrNone", "errors.errorType"], plainKeys := false, apart := false, laid := [("errors.errorType", laid_errors_errorType), ("meridian/api.ErrText", laid_meridian_api_ErrText), ("meridian/api.ErrBound", laid_meridian_api_ErrBound), ("meridian/api.ErrTime", laid_meridian_api_ErrTime), ("meridian/api.ErrTable", laid_meridian_api_ErrTable), ("meridian/api.ErrShape", laid_meridian_api_ErrShape), ("meridian/api.ErrLimit", laid_meridian_api_ErrLimit), ("meridian/api.ErrState", laid_meridian_api_ErrState), ("meridian/api.ErrFile", laid_meridian_api_ErrFile), ("meridian/api.ErrNone", laid_meridian_api_ErrNone), ("meridian/api.ErrName", laid_meridian_api_ErrName)] }
def NightShootsSaid : Prop := nightShootsRow.holds Tryd.pinned (OpenSpec.ofChange nightShootsSpec)

/-- ITS FALSE NEIGHBOUR: 'it returns false'. Refute it at one input. -/
def nightShootsWrong : ChangeSpec := { name := "nightShoots", fn := fun _ => fun
  | [d1, d2] => { results := [.lit (.bool false)], args := [d1, d2] }
  | _ => none }
def NightShootsWrongFalsely : Prop := nightShootsRow.holds Tryd.pinned (OpenSpec.ofChange nightShootsWrong)

/- THE SECOND FORM. 'bulk': how many values and letters a reading holds, each counted each time it is reached (what is shared counts as often as it is met; a slice's spare places count too). A statement '..UptoSaid' is the law's where the arguments, and the package variables that the reading takes, are together of bulk at most 1048576: NARROWER than '..Said'. Prove '..Said' where nothing that the law and all that it calls make is longer than what came in: it says more and counts as full. Else prove '..UptoSaid'. A law counts once. -/
mutual
def uptoBulk {H : Type} : DataW H → Nat
  | .lit (.string bytes) => bytes.length + 1
  | .lit _ => 1
  | .nil => 1
  | .ptr d => uptoBulk d + 1
  | .slice elems spare => uptoBulkAll elems + uptoBulkAll spare + 1
  | .agg parts => uptoBulkAll parts + 1
  | .iface _ d => uptoBulk d + 1
  | .map entries => uptoBulkEntries entries + 1
  | .held _ => 1
def uptoBulkAll {H : Type} : List (DataW H) → Nat
  | [] => 0
  | d :: r => uptoBulk d + uptoBulkAll r
def uptoBulkEntries {H : Type} : List (Lit × DataW H) → Nat
  | [] => 0
  | x :: r => uptoBulkEntry x + uptoBulkEntries r
def uptoBulkEntry {H : Type} : Lit × DataW H → Nat
  | (.string bytes, d) => bytes.length + uptoBulk d + 1
  | (_, d) => uptoBulk d + 1
 end
def uptoSmall : (H : Type) → List (DataW H) → Bool := fun _ ds => decide (uptoBulkAll ds ≤ 1048576)
def OpenSpec.upto (s : _root_.Go.ChangeSpec) : _root_.Go.OpenSpec := { _root_.Go.OpenSpec.ofChange s with cond := some uptoSmall }

/-- 'meridianlaw5.NightBest', WHERE WHAT IT READS IS OF BULK AT MOST 1048576: true; the input reads as it did. -/
def nightBestUptoRow : OpenClaim := { program := "ytjjjbkehmnfgbaadoor", sum := "ff3b0627bbf95c4f8b6f8325feda3847431cd615a0c60ec53673ac971db944af", func := "meridian/meridianlaw5.NightBest", spec := "nightBest", inPlace := ["internal/reflectlite.ValueOf", "(internal/reflectlite.Value).Type", "(internal/reflectlite.Value).IsNil", "internal/reflectlite.TypeOf", "(internal/reflectlite.Value).Elem", "(internal/reflectlite.Value).Set"], unfollowed := true, recurses := true, named := ["meridian/api.ErrBound", "meridian/api.ErrName", "meridian/api.ErrShape", "meridian/api.ErrText", "meridian/api.ErrTime", "meridian/api.ErrTable", "meridian/api.ErrLimit", "meridian/api.ErrState", "meridian/api.ErrFile", "meridian/api.ErrNone", "errors.errorType"], plainKeys := false, apart := false, laid := [("errors.errorType", laid_errors_errorType), ("meridian/api.ErrText", laid_meridian_api_ErrText), ("meridian/api.ErrBound", laid_meridian_api_ErrBound), ("meridian/api.ErrTime", laid_meridian_api_ErrTime), ("meridian/api.ErrTable", laid_meridian_api_ErrTable), ("meridian/api.ErrShape", laid_meridian_api_ErrShape), ("meridian/api.ErrLimit", laid_meridian_api_ErrLimit), ("meridian/api.ErrState", laid_meridian_api_ErrState), ("meridian/api.ErrFile", laid_meridian_api_ErrFile), ("meridian/api.ErrNone", laid_meridian_api_ErrNone), ("meridian/api.ErrName", laid_meridian_api_ErrName)], narrowed := true }
def NightBestUptoSaid : Prop := nightBestUptoRow.holds Tryd.pinned (OpenSpec.upto nightBestSpec)

/-- 'meridianlaw5.NightChecks', WHERE WHAT IT READS IS OF BULK AT MOST 1048576: true; the input reads as it did. -/
def nightChecksUptoRow : OpenClaim := { program := "ytjjjbkehmnfgbaadoor", sum := "ff3b0627bbf95c4f8b6f8325feda3847431cd615a0c60ec53673ac971db944af", func := "meridian/meridianlaw5.NightChecks", spec := "nightChecks", inPlace := ["internal/reflectlite.ValueOf", "(internal/reflectlite.Value).Type", "(internal/reflectlite.Value).IsNil", "internal/reflectlite.TypeOf", "(internal/reflectlite.Value).Elem", "(internal/reflectlite.Value).Set"], unfollowed := true, recurses := true, named := ["meridian/api.ErrBound", "meridian/api.ErrName", "meridian/api.ErrShape", "meridian/api.ErrText", "meridian/api.ErrTime", "meridian/api.ErrTable", "meridian/api.ErrLimit", "meridian/api.ErrState", "meridian/api.ErrFile", "meridian/api.ErrNone", "errors.errorType"], plainKeys := false, apart := false, laid := [("errors.errorType", laid_errors_errorType), ("meridian/api.ErrText", laid_meridian_api_ErrText), ("meridian/api.ErrBound", laid_meridian_api_ErrBound), ("meridian/api.ErrTime", laid_meridian_api_ErrTime), ("meridian/api.ErrTable", laid_meridian_api_ErrTable), ("meridian/api.ErrShape", laid_meridian_api_ErrShape), ("meridian/api.ErrLimit", laid_meridian_api_ErrLimit), ("meridian/api.ErrState", laid_meridian_api_ErrState), ("meridian/api.ErrFile", laid_meridian_api_ErrFile), ("meridian/api.ErrNone", laid_meridian_api_ErrNone), ("meridian/api.ErrName", laid_meridian_api_ErrName)], narrowed := true }
def NightChecksUptoSaid : Prop := nightChecksUptoRow.holds Tryd.pinned (OpenSpec.upto nightChecksSpec)

/-- 'meridianlaw5.AtlasCells', WHERE WHAT IT READS IS OF BULK AT MOST 1048576: true; the input reads as it did. -/
def atlasCellsUptoRow : OpenClaim := { program := "ytjjjbkehmnfgbaadoor", sum := "ff3b0627bbf95c4f8b6f8325feda3847431cd615a0c60ec53673ac971db944af", func := "meridian/meridianlaw5.AtlasCells", spec := "atlasCells", inPlace := ["internal/reflectlite.ValueOf", "(internal/reflectlite.Value).Type", "(internal/reflectlite.Value).IsNil", "internal/reflectlite.TypeOf", "(internal/reflectlite.Value).Elem", "(internal/reflectlite.Value).Set"], unfollowed := true, recurses := true, named := ["meridian/api.ErrShape", "meridian/api.ErrBound", "meridian/api.ErrText", "meridian/api.ErrTime", "meridian/api.ErrTable", "meridian/api.ErrLimit", "meridian/api.ErrState", "meridian/api.ErrFile", "meridian/api.ErrNone", "meridian/api.ErrName", "errors.errorType"], plainKeys := false, apart := false, laid := [("errors.errorType", laid_errors_errorType), ("meridian/api.ErrText", laid_meridian_api_ErrText), ("meridian/api.ErrBound", laid_meridian_api_ErrBound), ("meridian/api.ErrTime", laid_meridian_api_ErrTime), ("meridian/api.ErrTable", laid_meridian_api_ErrTable), ("meridian/api.ErrShape", laid_meridian_api_ErrShape), ("meridian/api.ErrLimit", laid_meridian_api_ErrLimit), ("meridian/api.ErrState", laid_meridian_api_ErrState), ("meridian/api.ErrFile", laid_meridian_api_ErrFile), ("meridian/api.ErrNone", laid_meridian_api_ErrNone), ("meridian/api.ErrName", laid_meridian_api_ErrName)], narrowed := true }
def AtlasCellsUptoSaid : Prop := atlasCellsUptoRow.holds Tryd.pinned (OpenSpec.upto atlasCellsSpec)

/-- 'meridianlaw5.NightShoots', WHERE WHAT IT READS IS OF BULK AT MOST 1048576: true; the input reads as it did. -/
def nightShootsUptoRow : OpenClaim := { program := "ytjjjbkehmnfgbaadoor", sum := "ff3b0627bbf95c4f8b6f8325feda3847431cd615a0c60ec53673ac971db944af", func := "meridian/meridianlaw5.NightShoots", spec := "nightShoots", inPlace := ["internal/reflectlite.ValueOf", "(internal/reflectlite.Value).Type", "(internal/reflectlite.Value).IsNil", "internal/reflectlite.TypeOf", "(internal/reflectlite.Value).Elem", "(internal/reflectlite.Value).Set", "internal/bytealg.abigen_runtime_cmpstring"], unfollowed := true, recurses := true, named := ["meridian/api.ErrName", "meridian/api.ErrShape", "meridian/api.ErrBound", "meridian/api.ErrText", "meridian/api.ErrTime", "meridian/api.ErrTable", "meridian/api.ErrLimit", "meridian/api.ErrState", "meridian/api.ErrFile", "meridian/api.ErrNone", "errors.errorType"], plainKeys := false, apart := false, laid := [("errors.errorType", laid_errors_errorType), ("meridian/api.ErrText", laid_meridian_api_ErrText), ("meridian/api.ErrBound", laid_meridian_api_ErrBound), ("meridian/api.ErrTime", laid_meridian_api_ErrTime), ("meridian/api.ErrTable", laid_meridian_api_ErrTable), ("meridian/api.ErrShape", laid_meridian_api_ErrShape), ("meridian/api.ErrLimit", laid_meridian_api_ErrLimit), ("meridian/api.ErrState", laid_meridian_api_ErrState), ("meridian/api.ErrFile", laid_meridian_api_ErrFile), ("meridian/api.ErrNone", laid_meridian_api_ErrNone), ("meridian/api.ErrName", laid_meridian_api_ErrName)], narrowed := true }
def NightShootsUptoSaid : Prop := nightShootsUptoRow.holds Tryd.pinned (OpenSpec.upto nightShootsSpec)

end Rows
end Go.Proofs.YtjjjbkehmnfgbaaDoor
