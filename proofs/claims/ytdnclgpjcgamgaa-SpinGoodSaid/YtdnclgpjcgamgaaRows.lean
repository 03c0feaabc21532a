/-
  No cell of these rows narrows 'for every input' (looked for: loops, veiled, ifaces, maps, wideKeys, modest, calm, conditions, laid).
  DERIVED. THE GIVEN ROWS OF THIS SEAT. 9 by the template 'for every input the law returns true; each argument reads behind the call as it read before'; 0 by the template 'total and deterministic' (their statements: YtdnclgpjcgamgaaTotals.lean).
  GIVEN WITH THE SEED: the statements are not yours to turn. If you find one false, say at which input.
  Laid BY PROGRAM, IN A SANDBOX (cutbox-rows.mjs): the forced cells as the released guide's own fill.sh prints them over the translation d74eca7fe944e094… (all of the seat's roots in one cut). By AI agents, Wed Nov 11 2026. No macro, syntax, notation, axiom, sorry.
-/
import Derived.Test.YtdnclgpjcgamgaaChecked
import GoSem.Claim
import GoSem.ClaimJoined
import GoSem.ClaimMapViews
import Derived.JoinedTies
import Derived.KernelRfl
namespace Go.Proofs.Ytdnclgpjcgamgaa
/- THE CELL 'sum', in the pinned program and in every row, IS THE sha256 OF THE DUMP (.gsa) THAT YtdnclgpjcgamgaaProg.lean LOADS. Nothing in Lean hashes anything: it is a label: what it is worth is what the hold of that sum in a sandbox is worth. -/
noncomputable def Try.pinned : Pinned := { name := "ytdnclgpjcgamgaa", sum := "d74eca7fe944e0941d2e1b32d978e34e1d66f8a15703ef9373ed9221ccef7f4f", checked := Try.checked }
namespace Rows
def none {H : Type} : Left H := { results := [], args := [] }

/-- 'meridianlaw2.SpinTimes': WHATEVER THE INPUT: true; the input reads as it did. -/
def spinTimesSpec : ChangeSpec := { name := "spinTimes", fn := fun _ => fun
  | [d1, d2] => { results := [.lit (.bool true)], args := [d1, d2] }
  | _ => none }
def spinTimesRow : OpenClaim := { program := "ytdnclgpjcgamgaa", sum := "d74eca7fe944e0941d2e1b32d978e34e1d66f8a15703ef9373ed9221ccef7f4f", func := "meridian/meridianlaw2.SpinTimes", spec := "spinTimes", inPlace := ["math.Float64bits", "math.sqrt"], apart := false }
def SpinTimesSaid : Prop := spinTimesRow.holds Try.pinned (OpenSpec.ofChange spinTimesSpec)

/-- ITS FALSE NEIGHBOUR: 'it returns false'. Refute it at one input. -/
def spinTimesWrong : ChangeSpec := { name := "spinTimes", fn := fun _ => fun
  | [d1, d2] => { results := [.lit (.bool false)], args := [d1, d2] }
  | _ => none }
def SpinTimesWrongFalsely : Prop := spinTimesRow.holds Try.pinned (OpenSpec.ofChange spinTimesWrong)

/-- 'meridianlaw2.OrbitGibbs': WHATEVER THE INPUT: true; the input reads as it did. -/
def orbitGibbsSpec : ChangeSpec := { name := "orbitGibbs", fn := fun _ => fun
  | [d1, d2, d3, d4] => { results := [.lit (.bool true)], args := [d1, d2, d3, d4] }
  | _ => none }
def orbitGibbsRow : OpenClaim := { program := "ytdnclgpjcgamgaa", sum := "d74eca7fe944e0941d2e1b32d978e34e1d66f8a15703ef9373ed9221ccef7f4f", func := "meridian/meridianlaw2.OrbitGibbs", spec := "orbitGibbs", inPlace := ["math.sqrt", "math.Float64bits"], apart := false }
def OrbitGibbsSaid : Prop := orbitGibbsRow.holds Try.pinned (OpenSpec.ofChange orbitGibbsSpec)

/-- ITS FALSE NEIGHBOUR: 'it returns false'. Refute it at one input. -/
def orbitGibbsWrong : ChangeSpec := { name := "orbitGibbs", fn := fun _ => fun
  | [d1, d2, d3, d4] => { results := [.lit (.bool false)], args := [d1, d2, d3, d4] }
  | _ => none }
def OrbitGibbsWrongFalsely : Prop := orbitGibbsRow.holds Try.pinned (OpenSpec.ofChange orbitGibbsWrong)

/-- 'meridianlaw2.SpinChains': WHATEVER THE INPUT: true; the input reads as it did. -/
def spinChainsSpec : ChangeSpec := { name := "spinChains", fn := fun _ => fun
  | [d] => { results := [.lit (.bool true)], args := [d] }
  | _ => none }
def spinChainsRow : OpenClaim := { program := "ytdnclgpjcgamgaa", sum := "d74eca7fe944e0941d2e1b32d978e34e1d66f8a15703ef9373ed9221ccef7f4f", func := "meridian/meridianlaw2.SpinChains", spec := "spinChains", inPlace := ["math.sqrt", "math.Float64bits"], apart := false }
def SpinChainsSaid : Prop := spinChainsRow.holds Try.pinned (OpenSpec.ofChange spinChainsSpec)

/-- ITS FALSE NEIGHBOUR: 'it returns false'. Refute it at one input. -/
def spinChainsWrong : ChangeSpec := { name := "spinChains", fn := fun _ => fun
  | [d] => { results := [.lit (.bool false)], args := [d] }
  | _ => none }
def SpinChainsWrongFalsely : Prop := spinChainsRow.holds Try.pinned (OpenSpec.ofChange spinChainsWrong)

/-- 'meridianlaw2.SpinTurns': WHATEVER THE INPUT: true; the input reads as it did. -/
def spinTurnsSpec : ChangeSpec := { name := "spinTurns", fn := fun _ => fun
  | [d1, d2, d3, d4] => { results := [.lit (.bool true)], args := [d1, d2, d3, d4] }
  | _ => none }
def spinTurnsRow : OpenClaim := { program := "ytdnclgpjcgamgaa", sum := "d74eca7fe944e0941d2e1b32d978e34e1d66f8a15703ef9373ed9221ccef7f4f", func := "meridian/meridianlaw2.SpinTurns", spec := "spinTurns", inPlace := ["math.sqrt", "math.Float64bits"], unfollowed := true, recurses := true, apart := false }
def SpinTurnsSaid : Prop := spinTurnsRow.holds Try.pinned (OpenSpec.ofChange spinTurnsSpec)

/-- ITS FALSE NEIGHBOUR: 'it returns false'. Refute it at one input. -/
def spinTurnsWrong : ChangeSpec := { name := "spinTurns", fn := fun _ => fun
  | [d1, d2, d3, d4] => { results := [.lit (.bool false)], args := [d1, d2, d3, d4] }
  | _ => none }
def SpinTurnsWrongFalsely : Prop := spinTurnsRow.holds Try.pinned (OpenSpec.ofChange spinTurnsWrong)

/-- 'meridianlaw2.SkyBetween': WHATEVER THE INPUT: true; the input reads as it did. -/
def skyBetweenSpec : ChangeSpec := { name := "skyBetween", fn := fun _ => fun
  | [d1, d2] => { results := [.lit (.bool true)], args := [d1, d2] }
  | _ => none }
def skyBetweenRow : OpenClaim := { program := "ytdnclgpjcgamgaa", sum := "d74eca7fe944e0941d2e1b32d978e34e1d66f8a15703ef9373ed9221ccef7f4f", func := "meridian/meridianlaw2.SkyBetween", spec := "skyBetween", inPlace := ["math.sqrt", "math.Float64bits", "math.Float64frombits"], apart := false }
def SkyBetweenSaid : Prop := skyBetweenRow.holds Try.pinned (OpenSpec.ofChange skyBetweenSpec)

/-- ITS FALSE NEIGHBOUR: 'it returns false'. Refute it at one input. -/
def skyBetweenWrong : ChangeSpec := { name := "skyBetween", fn := fun _ => fun
  | [d1, d2] => { results := [.lit (.bool false)], args := [d1, d2] }
  | _ => none }
def SkyBetweenWrongFalsely : Prop := skyBetweenRow.holds Try.pinned (OpenSpec.ofChange skyBetweenWrong)

/-- 'meridianlaw2.SpinGood': WHATEVER THE INPUT: true; the input reads as it did. -/
def spinGoodSpec : ChangeSpec := { name := "spinGood", fn := fun _ => fun
  | [d1, d2, d3, d4, d5] => { results := [.lit (.bool true)], args := [d1, d2, d3, d4, d5] }
  | _ => none }
def spinGoodRow : OpenClaim := { program := "ytdnclgpjcgamgaa", sum := "d74eca7fe944e0941d2e1b32d978e34e1d66f8a15703ef9373ed9221ccef7f4f", func := "meridian/meridianlaw2.SpinGood", spec := "spinGood", inPlace := ["math.sqrt"], unfollowed := true, recurses := true, apart := false }
def SpinGoodSaid : Prop := spinGoodRow.holds Try.pinned (OpenSpec.ofChange spinGoodSpec)

/-- ITS FALSE NEIGHBOUR: 'it returns false'. Refute it at one input. -/
def spinGoodWrong : ChangeSpec := { name := "spinGood", fn := fun _ => fun
  | [d1, d2, d3, d4, d5] => { results := [.lit (.bool false)], args := [d1, d2, d3, d4, d5] }
  | _ => none }
def SpinGoodWrongFalsely : Prop := spinGoodRow.holds Try.pinned (OpenSpec.ofChange spinGoodWrong)

/-- 'meridianlaw2.SkyPlaces': WHATEVER THE INPUT: true; the input reads as it did. -/
def skyPlacesSpec : ChangeSpec := { name := "skyPlaces", fn := fun _ => fun
  | [d1, d2] => { results := [.lit (.bool true)], args := [d1, d2] }
  | _ => none }
def skyPlacesRow : OpenClaim := { program := "ytdnclgpjcgamgaa", sum := "d74eca7fe944e0941d2e1b32d978e34e1d66f8a15703ef9373ed9221ccef7f4f", func := "meridian/meridianlaw2.SkyPlaces", spec := "skyPlaces", inPlace := ["math.Float64bits", "math.Float64frombits", "math.sqrt"], apart := false }
def SkyPlacesSaid : Prop := skyPlacesRow.holds Try.pinned (OpenSpec.ofChange skyPlacesSpec)

/-- ITS FALSE NEIGHBOUR: 'it returns false'. Refute it at one input. -/
def skyPlacesWrong : ChangeSpec := { name := "skyPlaces", fn := fun _ => fun
  | [d1, d2] => { results := [.lit (.bool false)], args := [d1, d2] }
  | _ => none }
def SkyPlacesWrongFalsely : Prop := skyPlacesRow.holds Try.pinned (OpenSpec.ofChange skyPlacesWrong)

/-- 'meridianlaw2.SkyHorizon': WHATEVER THE INPUT: true; the input reads as it did. -/
def skyHorizonSpec : ChangeSpec := { name := "skyHorizon", fn := fun _ => fun
  | [d1, d2, d3] => { results := [.lit (.bool true)], args := [d1, d2, d3] }
  | _ => none }
def skyHorizonRow : OpenClaim := { program := "ytdnclgpjcgamgaa", sum := "d74eca7fe944e0941d2e1b32d978e34e1d66f8a15703ef9373ed9221ccef7f4f", func := "meridian/meridianlaw2.SkyHorizon", spec := "skyHorizon", inPlace := ["math.Float64bits", "math.Float64frombits", "math.sqrt"], apart := false }
def SkyHorizonSaid : Prop := skyHorizonRow.holds Try.pinned (OpenSpec.ofChange skyHorizonSpec)

/-- ITS FALSE NEIGHBOUR: 'it returns false'. Refute it at one input. -/
def skyHorizonWrong : ChangeSpec := { name := "skyHorizon", fn := fun _ => fun
  | [d1, d2, d3] => { results := [.lit (.bool false)], args := [d1, d2, d3] }
  | _ => none }
def SkyHorizonWrongFalsely : Prop := skyHorizonRow.holds Try.pinned (OpenSpec.ofChange skyHorizonWrong)

/-- 'meridianlaw2.SkyBack': WHATEVER THE INPUT: true; the input reads as it did. -/
def skyBackSpec : ChangeSpec := { name := "skyBack", fn := fun _ => fun
  | [d] => { results := [.lit (.bool true)], args := [d] }
  | _ => none }
def skyBackRow : OpenClaim := { program := "ytdnclgpjcgamgaa", sum := "d74eca7fe944e0941d2e1b32d978e34e1d66f8a15703ef9373ed9221ccef7f4f", func := "meridian/meridianlaw2.SkyBack", spec := "skyBack", inPlace := ["math.Float64bits", "math.Float64frombits", "math.sqrt"], apart := false }
def SkyBackSaid : Prop := skyBackRow.holds Try.pinned (OpenSpec.ofChange skyBackSpec)

/-- ITS FALSE NEIGHBOUR: 'it returns false'. Refute it at one input. -/
def skyBackWrong : ChangeSpec := { name := "skyBack", fn := fun _ => fun
  | [d] => { results := [.lit (.bool false)], args := [d] }
  | _ => none }
def SkyBackWrongFalsely : Prop := skyBackRow.holds Try.pinned (OpenSpec.ofChange skyBackWrong)

/- THE SECOND FORM. 'bulk': how many values and letters a reading holds, each counted each time it is reached (what is shared counts as often as it is met; a slice's spare places count too). A statement '..UptoSaid' is the law's where the arguments, and the package variables that the reading takes, are together of bulk at most 1048576: NARROWER than '..Said'. Prove '..Said' where nothing that the law and all that it calls make is longer than what came in: it says more and counts as full. Else prove '..UptoSaid'. A law counts once. -/
mutual
def uptoBulk {H : Type} : DataW H → Nat
  | .lit (.string bytes) => bytes.length + 1
  | .lit _ => 1
  | .nil => 1
  | .ptr d => uptoBulk d + 1
  | .slice elems spare => uptoBulkAll elems + uptoBulkAll spare + 1
  | .agg parts => uptoBulkAll parts + 1
  | .iface _ d => uptoBulk d + 1
  | .map entries => uptoBulkEntries entries + 1
  | .held _ => 1
def uptoBulkAll {H : Type} : List (DataW H) → Nat
  | [] => 0
  | d :: r => uptoBulk d + uptoBulkAll r
def uptoBulkEntries {H : Type} : List (Lit × DataW H) → Nat
  | [] => 0
  | x :: r => uptoBulkEntry x + uptoBulkEntries r
def uptoBulkEntry {H : Type} : Lit × DataW H → Nat
  | (.string bytes, d) => bytes.length + uptoBulk d + 1
  | (_, d) => uptoBulk d + 1
 end
def uptoSmall : (H : Type) → List (DataW H) → Bool := fun _ ds => decide (uptoBulkAll ds ≤ 1048576)
def OpenSpec.upto (s : _root_.Go.ChangeSpec) : _root_.Go.OpenSpec := { _root_.Go.OpenSpec.ofChange s with cond := some uptoSmall }

/-- 'meridianlaw2.SpinTimes', WHERE WHAT IT READS IS OF BULK AT MOST 1048576: true; the input reads as it did. -/
def spinTimesUptoRow : OpenClaim := { program := "ytdnclgpjcgamgaa", sum := "d74eca7fe944e0941d2e1b32d978e34e1d66f8a15703ef9373ed9221ccef7f4f", func := "meridian/meridianlaw2.SpinTimes", spec := "spinTimes", inPlace := ["math.Float64bits", "math.sqrt"], apart := false, narrowed := true }
def SpinTimesUptoSaid : Prop := spinTimesUptoRow.holds Try.pinned (OpenSpec.upto spinTimesSpec)

/-- 'meridianlaw2.OrbitGibbs', WHERE WHAT IT READS IS OF BULK AT MOST 1048576: true; the input reads as it did. -/
def orbitGibbsUptoRow : OpenClaim := { program := "ytdnclgpjcgamgaa", sum := "d74eca7fe944e0941d2e1b32d978e34e1d66f8a15703ef9373ed9221ccef7f4f", func := "meridian/meridianlaw2.OrbitGibbs", spec := "orbitGibbs", inPlace := ["math.sqrt", "math.Float64bits"], apart := false, narrowed := true }
def OrbitGibbsUptoSaid : Prop := orbitGibbsUptoRow.holds Try.pinned (OpenSpec.upto orbitGibbsSpec)

/-- 'meridianlaw2.SpinChains', WHERE WHAT IT READS IS OF BULK AT MOST 1048576: true; the input reads as it did. -/
def spinChainsUptoRow : OpenClaim := { program := "ytdnclgpjcgamgaa", sum := "d74eca7fe944e0941d2e1b32d978e34e1d66f8a15703ef9373ed9221ccef7f4f", func := "meridian/meridianlaw2.SpinChains", spec := "spinChains", inPlace := ["math.sqrt", "math.Float64bits"], apart := false, narrowed := true }
def SpinChainsUptoSaid : Prop := spinChainsUptoRow.holds Try.pinned (OpenSpec.upto spinChainsSpec)

/-- 'meridianlaw2.SpinTurns', WHERE WHAT IT READS IS OF BULK AT MOST 1048576: true; the input reads as it did. -/
def spinTurnsUptoRow : OpenClaim := { program := "ytdnclgpjcgamgaa", sum := "d74eca7fe944e0941d2e1b32d978e34e1d66f8a15703ef9373ed9221ccef7f4f", func := "meridian/meridianlaw2.SpinTurns", spec := "spinTurns", inPlace := ["math.sqrt", "math.Float64bits"], unfollowed := true, recurses := true, apart := false, narrowed := true }
def SpinTurnsUptoSaid : Prop := spinTurnsUptoRow.holds Try.pinned (OpenSpec.upto spinTurnsSpec)

/-- 'meridianlaw2.SkyBetween', WHERE WHAT IT READS IS OF BULK AT MOST 1048576: true; the input reads as it did. -/
def skyBetweenUptoRow : OpenClaim := { program := "ytdnclgpjcgamgaa", sum := "d74eca7fe944e0941d2e1b32d978e34e1d66f8a15703ef9373ed9221ccef7f4f", func := "meridian/meridianlaw2.SkyBetween", spec := "skyBetween", inPlace := ["math.sqrt", "math.Float64bits", "math.Float64frombits"], apart := false, narrowed := true }
def SkyBetweenUptoSaid : Prop := skyBetweenUptoRow.holds Try.pinned (OpenSpec.upto skyBetweenSpec)

/-- 'meridianlaw2.SpinGood', WHERE WHAT IT READS IS OF BULK AT MOST 1048576: true; the input reads as it did. -/
def spinGoodUptoRow : OpenClaim := { program := "ytdnclgpjcgamgaa", sum := "d74eca7fe944e0941d2e1b32d978e34e1d66f8a15703ef9373ed9221ccef7f4f", func := "meridian/meridianlaw2.SpinGood", spec := "spinGood", inPlace := ["math.sqrt"], unfollowed := true, recurses := true, apart := false, narrowed := true }
def SpinGoodUptoSaid : Prop := spinGoodUptoRow.holds Try.pinned (OpenSpec.upto spinGoodSpec)

/-- 'meridianlaw2.SkyPlaces', WHERE WHAT IT READS IS OF BULK AT MOST 1048576: true; the input reads as it did. -/
def skyPlacesUptoRow : OpenClaim := { program := "ytdnclgpjcgamgaa", sum := "d74eca7fe944e0941d2e1b32d978e34e1d66f8a15703ef9373ed9221ccef7f4f", func := "meridian/meridianlaw2.SkyPlaces", spec := "skyPlaces", inPlace := ["math.Float64bits", "math.Float64frombits", "math.sqrt"], apart := false, narrowed := true }
def SkyPlacesUptoSaid : Prop := skyPlacesUptoRow.holds Try.pinned (OpenSpec.upto skyPlacesSpec)

/-- 'meridianlaw2.SkyHorizon', WHERE WHAT IT READS IS OF BULK AT MOST 1048576: true; the input reads as it did. -/
def skyHorizonUptoRow : OpenClaim := { program := "ytdnclgpjcgamgaa", sum := "d74eca7fe944e0941d2e1b32d978e34e1d66f8a15703ef9373ed9221ccef7f4f", func := "meridian/meridianlaw2.SkyHorizon", spec := "skyHorizon", inPlace := ["math.Float64bits", "math.Float64frombits", "math.sqrt"], apart := false, narrowed := true }
def SkyHorizonUptoSaid : Prop := skyHorizonUptoRow.holds Try.pinned (OpenSpec.upto skyHorizonSpec)

/-- 'meridianlaw2.SkyBack', WHERE WHAT IT READS IS OF BULK AT MOST 1048576: true; the input reads as it did. -/
def skyBackUptoRow : OpenClaim := { program := "ytdnclgpjcgamgaa", sum := "d74eca7fe944e0941d2e1b32d978e34e1d66f8a15703ef9373ed9221ccef7f4f", func := "meridian/meridianlaw2.SkyBack", spec := "skyBack", inPlace := ["math.Float64bits", "math.Float64frombits", "math.sqrt"], apart := false, narrowed := true }
def SkyBackUptoSaid : Prop := skyBackUptoRow.holds Try.pinned (OpenSpec.upto skyBackSpec)

end Rows
end Go.Proofs.Ytdnclgpjcgamgaa
