/-
  NARROWER THAN 'FOR EVERY INPUT', by the rows' own cells (each row's printed sentence says how): OrbitEnclosed: laid · OrbitKepler: laid · SkyChains: laid.
  DERIVED. THE GIVEN ROWS OF THIS SEAT. 3 by the template 'for every input the law returns true; each argument reads behind the call as it read before'; 0 by the template 'total and deterministic' (their statements: YtdnclgpjcgamgaaDoorTotals.lean).
  GIVEN WITH THE SEED: the statements are not yours to turn. If you find one false, say at which input.
  Laid BY PROGRAM, IN A SANDBOX (cutbox-rows.mjs): the forced cells as the released guide's own fill.sh prints them over the translation b349a3e0a5e64b30… (all of the seat's roots in one cut). By AI agents, Wed Nov 11 2026. No macro, syntax, notation, axiom, sorry.
-/
import Derived.Test.YtdnclgpjcgamgaaDoorChecked
import GoSem.Claim
import GoSem.ClaimJoined
import GoSem.ClaimMapViews
import Derived.JoinedTies
import Derived.KernelRfl
namespace Go.Proofs.YtdnclgpjcgamgaaDoor
/- THE CELL 'sum', in the pinned program and in every row, IS THE sha256 OF THE DUMP (.gsa) THAT YtdnclgpjcgamgaaDoorProg.lean LOADS. Nothing in Lean hashes anything: it is a label: what it is worth is what the hold of that sum in a sandbox is worth. -/
noncomputable def Tryd.pinned : Pinned := { name := "ytdnclgpjcgamgaadoor", sum := "b349a3e0a5e64b300ce9c16138f94e96f979e4eab6491afea3ac1eadb0ca3330", checked := Tryd.checked }
namespace Rows
def none {H : Type} : Left H := { results := [], args := [] }

/- WHAT THE LISTED PACKAGE-LEVEL VARIABLES READ AS WHEN THE CALL BEGINS. Each datum BY PROGRAM (the guide's laid-datum.mjs) off the statement by which the dump's own 'gosem.cut.vars' lays the variable. In a bare row this is a premise. The card (YtdnclgpjcgamgaaDoorCards.lean) ties it to the program's text. -/
def laid_meridian_api_ErrShape {H : Type} : DataW H := .iface "*errors.errorString" (.ptr (.agg [.lit (.string [109, 101, 114, 105, 100, 105, 97, 110, 58, 32, 115, 104, 97, 112, 101])]))
def laid_errors_errorType {H : Type} : DataW H := .iface "internal/reflectlite.rtype" (.agg [.ptr (.lit (.string [101, 114, 114, 111, 114]))])
def laid_meridian_api_ErrText {H : Type} : DataW H := .iface "*errors.errorString" (.ptr (.agg [.lit (.string [109, 101, 114, 105, 100, 105, 97, 110, 58, 32, 116, 101, 120, 116])]))
def laid_meridian_api_ErrBound {H : Type} : DataW H := .iface "*errors.errorString" (.ptr (.agg [.lit (.string [109, 101, 114, 105, 100, 105, 97, 110, 58, 32, 98, 111, 117, 110, 100])]))
def laid_meridian_api_ErrTime {H : Type} : DataW H := .iface "*errors.errorString" (.ptr (.agg [.lit (.string [109, 101, 114, 105, 100, 105, 97, 110, 58, 32, 116, 105, 109, 101])]))
def laid_meridian_api_ErrTable {H : Type} : DataW H := .iface "*errors.errorString" (.ptr (.agg [.lit (.string [109, 101, 114, 105, 100, 105, 97, 110, 58, 32, 116, 97, 98, 108, 101])]))
def laid_meridian_api_ErrLimit {H : Type} : DataW H := .iface "*errors.errorString" (.ptr (.agg [.lit (.string [109, 101, 114, 105, 100, 105, 97, 110, 58, 32, 108, 105, 109, 105, 116])]))
def laid_meridian_api_ErrState {H : Type} : DataW H := .iface "*errors.errorString" (.ptr (.agg [.lit (.string [109, 101, 114, 105, 100, 105, 97, 110, 58, 32, 115, 116, 97, 116, 101])]))
def laid_meridian_api_ErrFile {H : Type} : DataW H := .iface "*errors.errorString" (.ptr (.agg [.lit (.string [109, 101, 114, 105, 100, 105, 97, 110, 58, 32, 102, 105, 108, 101])]))
def laid_meridian_api_ErrNone {H : Type} : DataW H := .iface "*errors.errorString" (.ptr (.agg [.lit (.string [109, 101, 114, 105, 100, 105, 97, 110, 58, 32, 110, 111, 110, 101])]))
def laid_meridian_api_ErrName {H : Type} : DataW H := .iface "*errors.errorString" (.ptr (.agg [.lit (.string [109, 101, 114, 105, 100, 105, 97, 110, 58, 32, 110, 97, 109, 101])]))

/-- 'meridianlaw2.OrbitEnclosed': WHATEVER THE INPUT: true; the input reads as it did. -/
def orbitEnclosedSpec : ChangeSpec := { name := "orbitEnclosed", fn := fun _ => fun
  | [d1, d2] => { results := [.lit (.bool true)], args := [d1, d2] }
  | _ => none }
def orbitEnclosedRow : OpenClaim := { program := "ytdnclgpjcgamgaadoor", sum := "b349a3e0a5e64b300ce9c16138f94e96f979e4eab6491afea3ac1eadb0ca3330", func := "meridian/meridianlaw2.OrbitEnclosed", spec := "orbitEnclosed", named := ["meridian/api.ErrShape"], apart := false, laid := [("meridian/api.ErrShape", laid_meridian_api_ErrShape)] }
def OrbitEnclosedSaid : Prop := orbitEnclosedRow.holds Tryd.pinned (OpenSpec.ofChange orbitEnclosedSpec)

/-- ITS FALSE NEIGHBOUR: 'it returns false'. Refute it at one input. -/
def orbitEnclosedWrong : ChangeSpec := { name := "orbitEnclosed", fn := fun _ => fun
  | [d1, d2] => { results := [.lit (.bool false)], args := [d1, d2] }
  | _ => none }
def OrbitEnclosedWrongFalsely : Prop := orbitEnclosedRow.holds Tryd.pinned (OpenSpec.ofChange orbitEnclosedWrong)

/-- 'meridianlaw2.OrbitKepler': WHATEVER THE INPUT: true; the input reads as it did. -/
def orbitKeplerSpec : ChangeSpec := { name := "orbitKepler", fn := fun _ => fun
  | [d1, d2] => { results := [.lit (.bool true)], args := [d1, d2] }
  | _ => none }
def orbitKeplerRow : OpenClaim := { program := "ytdnclgpjcgamgaadoor", sum := "b349a3e0a5e64b300ce9c16138f94e96f979e4eab6491afea3ac1eadb0ca3330", func := "meridian/meridianlaw2.OrbitKepler", spec := "orbitKepler", inPlace := ["internal/reflectlite.ValueOf", "(internal/reflectlite.Value).Type", "(internal/reflectlite.Value).IsNil", "internal/reflectlite.TypeOf", "(internal/reflectlite.Value).Elem", "(internal/reflectlite.Value).Set"], unfollowed := true, recurses := true, named := ["meridian/api.ErrShape", "meridian/api.ErrText", "meridian/api.ErrBound", "meridian/api.ErrTime", "meridian/api.ErrTable", "meridian/api.ErrLimit", "meridian/api.ErrState", "meridian/api.ErrFile", "meridian/api.ErrNone", "meridian/api.ErrName", "errors.errorType"], apart := false, laid := [("errors.errorType", laid_errors_errorType), ("meridian/api.ErrText", laid_meridian_api_ErrText), ("meridian/api.ErrBound", laid_meridian_api_ErrBound), ("meridian/api.ErrTime", laid_meridian_api_ErrTime), ("meridian/api.ErrTable", laid_meridian_api_ErrTable), ("meridian/api.ErrShape", laid_meridian_api_ErrShape), ("meridian/api.ErrLimit", laid_meridian_api_ErrLimit), ("meridian/api.ErrState", laid_meridian_api_ErrState), ("meridian/api.ErrFile", laid_meridian_api_ErrFile), ("meridian/api.ErrNone", laid_meridian_api_ErrNone), ("meridian/api.ErrName", laid_meridian_api_ErrName)] }
def OrbitKeplerSaid : Prop := orbitKeplerRow.holds Tryd.pinned (OpenSpec.ofChange orbitKeplerSpec)

/-- ITS FALSE NEIGHBOUR: 'it returns false'. Refute it at one input. -/
def orbitKeplerWrong : ChangeSpec := { name := "orbitKepler", fn := fun _ => fun
  | [d1, d2] => { results := [.lit (.bool false)], args := [d1, d2] }
  | _ => none }
def OrbitKeplerWrongFalsely : Prop := orbitKeplerRow.holds Tryd.pinned (OpenSpec.ofChange orbitKeplerWrong)

/-- 'meridianlaw2.SkyChains': WHATEVER THE INPUT: true; the input reads as it did. -/
def skyChainsSpec : ChangeSpec := { name := "skyChains", fn := fun _ => fun
  | [d1, d2] => { results := [.lit (.bool true)], args := [d1, d2] }
  | _ => none }
def skyChainsRow : OpenClaim := { program := "ytdnclgpjcgamgaadoor", sum := "b349a3e0a5e64b300ce9c16138f94e96f979e4eab6491afea3ac1eadb0ca3330", func := "meridian/meridianlaw2.SkyChains", spec := "skyChains", inPlace := ["internal/reflectlite.ValueOf", "(internal/reflectlite.Value).Type", "(internal/reflectlite.Value).IsNil", "internal/reflectlite.TypeOf", "(internal/reflectlite.Value).Elem", "(internal/reflectlite.Value).Set", "math.Float64bits", "math.sqrt"], unfollowed := true, recurses := true, named := ["meridian/api.ErrBound", "meridian/api.ErrShape", "meridian/api.ErrText", "meridian/api.ErrTime", "meridian/api.ErrTable", "meridian/api.ErrLimit", "meridian/api.ErrState", "meridian/api.ErrFile", "meridian/api.ErrNone", "meridian/api.ErrName", "errors.errorType"], apart := false, laid := [("errors.errorType", laid_errors_errorType), ("meridian/api.ErrText", laid_meridian_api_ErrText), ("meridian/api.ErrBound", laid_meridian_api_ErrBound), ("meridian/api.ErrTime", laid_meridian_api_ErrTime), ("meridian/api.ErrTable", laid_meridian_api_ErrTable), ("meridian/api.ErrShape", laid_meridian_api_ErrShape), ("meridian/api.ErrLimit", laid_meridian_api_ErrLimit), ("meridian/api.ErrState", laid_meridian_api_ErrState), ("meridian/api.ErrFile", laid_meridian_api_ErrFile), ("meridian/api.ErrNone", laid_meridian_api_ErrNone), ("meridian/api.ErrName", laid_meridian_api_ErrName)] }
def SkyChainsSaid : Prop := skyChainsRow.holds Tryd.pinned (OpenSpec.ofChange skyChainsSpec)

/-- ITS FALSE NEIGHBOUR: 'it returns false'. Refute it at one input. -/
def skyChainsWrong : ChangeSpec := { name := "skyChains", fn := fun _ => fun
  | [d1, d2] => { results := [.lit (.bool false)], args := [d1, d2] }
  | _ => none }
def SkyChainsWrongFalsely : Prop := skyChainsRow.holds Tryd.pinned (OpenSpec.ofChange skyChainsWrong)

/- THE SECOND FORM. 'bulk': how many values and letters a reading holds, each counted each time it is reached (what is shared counts as often as it is met; a slice's spare places count too). A statement '..UptoSaid' is the law's where the arguments, and the package variables that the reading takes, are together of bulk at most 1048576: NARROWER than '..Said'. Prove '..Said' where nothing that the law and all that it calls make is longer than what came in: it says more and counts as full. Else prove '..UptoSaid'. A law counts once. -/
mutual
def uptoBulk {H : Type} : DataW H → Nat
  | .lit (.string bytes) => bytes.length + 1
  | .lit _ => 1
  | .nil => 1
  | .ptr d => uptoBulk d + 1
  | .slice elems spare => uptoBulkAll elems + uptoBulkAll spare + 1
  | .agg parts => uptoBulkAll parts + 1
  | .iface _ d => uptoBulk d + 1
  | .map entries => uptoBulkEntries entries + 1
  | .held _ => 1
def uptoBulkAll {H : Type} : List (DataW H) → Nat
  | [] => 0
  | d :: r => uptoBulk d + uptoBulkAll r
def uptoBulkEntries {H : Type} : List (Lit × DataW H) → Nat
  | [] => 0
  | x :: r => uptoBulkEntry x + uptoBulkEntries r
def uptoBulkEntry {H : Type} : Lit × DataW H → Nat
  | (.string bytes, d) => bytes.length + uptoBulk d + 1
  | (_, d) => uptoBulk d + 1
 end
def uptoSmall : (H : Type) → List (DataW H) → Bool := fun _ ds => decide (uptoBulkAll ds ≤ 1048576)
def OpenSpec.upto (s : _root_.Go.ChangeSpec) : _root_.Go.OpenSpec := { _root_.Go.OpenSpec.ofChange s with cond := some uptoSmall }

/-- 'meridianlaw2.OrbitEnclosed', WHERE WHAT IT READS IS OF BULK AT MOST 1048576: true; the input reads as it did. -/
def orbitEnclosedUptoRow : OpenClaim := { program := "ytdnclgpjcgamgaadoor", sum := "b349a3e0a5e64b300ce9c16138f94e96f979e4eab6491afea3ac1eadb0ca3330", func := "meridian/meridianlaw2.OrbitEnclosed", spec := "orbitEnclosed", named := ["meridian/api.ErrShape"], apart := false, laid := [("meridian/api.ErrShape", laid_meridian_api_ErrShape)], narrowed := true }
def OrbitEnclosedUptoSaid : Prop := orbitEnclosedUptoRow.holds Tryd.pinned (OpenSpec.upto orbitEnclosedSpec)

/-- 'meridianlaw2.OrbitKepler', WHERE WHAT IT READS IS OF BULK AT MOST 1048576: true; the input reads as it did. -/
def orbitKeplerUptoRow : OpenClaim := { program := "ytdnclgpjcgamgaadoor", sum := "b349a3e0a5e64b300ce9c16138f94e96f979e4eab6491afea3ac1eadb0ca3330", func := "meridian/meridianlaw2.OrbitKepler", spec := "orbitKepler", inPlace := ["internal/reflectlite.ValueOf", "(internal/reflectlite.Value).Type", "(internal/reflectlite.Value).IsNil", "internal/reflectlite.TypeOf", "(internal/reflectlite.Value).Elem", "(internal/reflectlite.Value).Set"], unfollowed := true, recurses := true, named := ["meridian/api.ErrShape", "meridian/api.ErrText", "meridian/api.ErrBound", "meridian/api.ErrTime", "meridian/api.ErrTable", "meridian/api.ErrLimit", "meridian/api.ErrState", "meridian/api.ErrFile", "meridian/api.ErrNone", "meridian/api.ErrName", "errors.errorType"], apart := false, laid := [("errors.errorType", laid_errors_errorType), ("meridian/api.ErrText", laid_meridian_api_ErrText), ("meridian/api.ErrBound", laid_meridian_api_ErrBound), ("meridian/api.ErrTime", laid_meridian_api_ErrTime), ("meridian/api.ErrTable", laid_meridian_api_ErrTable), ("meridian/api.ErrShape", laid_meridian_api_ErrShape), ("meridian/api.ErrLimit", laid_meridian_api_ErrLimit), ("meridian/api.ErrState", laid_meridian_api_ErrState), ("meridian/api.ErrFile", laid_meridian_api_ErrFile), ("meridian/api.ErrNone", laid_meridian_api_ErrNone), ("meridian/api.ErrName", laid_meridian_api_ErrName)], narrowed := true }
def OrbitKeplerUptoSaid : Prop := orbitKeplerUptoRow.holds Tryd.pinned (OpenSpec.upto orbitKeplerSpec)

/-- 'meridianlaw2.SkyChains', WHERE WHAT IT READS IS OF BULK AT MOST 1048576: true; the input reads as it did. -/
def skyChainsUptoRow : OpenClaim := { program := "ytdnclgpjcgamgaadoor", sum := "b349a3e0a5e64b300ce9c16138f94e96f979e4eab6491afea3ac1eadb0ca3330", func := "meridian/meridianlaw2.SkyChains", spec := "skyChains", inPlace := ["internal/reflectlite.ValueOf", "(internal/reflectlite.Value).Type", "(internal/reflectlite.Value).IsNil", "internal/reflectlite.TypeOf", "(internal/reflectlite.Value).Elem", "(internal/reflectlite.Value).Set", "math.Float64bits", "math.sqrt"], unfollowed := true, recurses := true, named := ["meridian/api.ErrBound", "meridian/api.ErrShape", "meridian/api.ErrText", "meridian/api.ErrTime", "meridian/api.ErrTable", "meridian/api.ErrLimit", "meridian/api.ErrState", "meridian/api.ErrFile", "meridian/api.ErrNone", "meridian/api.ErrName", "errors.errorType"], apart := false, laid := [("errors.errorType", laid_errors_errorType), ("meridian/api.ErrText", laid_meridian_api_ErrText), ("meridian/api.ErrBound", laid_meridian_api_ErrBound), ("meridian/api.ErrTime", laid_meridian_api_ErrTime), ("meridian/api.ErrTable", laid_meridian_api_ErrTable), ("meridian/api.ErrShape", laid_meridian_api_ErrShape), ("meridian/api.ErrLimit", laid_meridian_api_ErrLimit), ("meridian/api.ErrState", laid_meridian_api_ErrState), ("meridian/api.ErrFile", laid_meridian_api_ErrFile), ("meridian/api.ErrNone", laid_meridian_api_ErrNone), ("meridian/api.ErrName", laid_meridian_api_ErrName)], narrowed := true }
def SkyChainsUptoSaid : Prop := skyChainsUptoRow.holds Tryd.pinned (OpenSpec.upto skyChainsSpec)

end Rows
end Go.Proofs.YtdnclgpjcgamgaaDoor
