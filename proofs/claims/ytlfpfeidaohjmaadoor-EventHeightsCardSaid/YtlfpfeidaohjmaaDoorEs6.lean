/- The shelf's contracts at this program: slices.Sort and slices.Compact of whole numbers. -/
import Derived.Test.YtlfpfeidaohjmaaDoorShl
import Derived.Test.YtlfpfeidaohjmaaDoorEs5
set_option linter.unusedSimpArgs false
set_option linter.unusedVariables false
namespace Go.Proofs.YtlfpfeidaohjmaaDoor
open Go.RowKit Go.Grow Go.Shelf Go.Sort

theorem sort_walk (blk off cap : Nat) (zs : List Int) (w : World) (hH : Holds (Value.int .i64) w blk off zs.toArray) (hblk : blk < w.heap.size) (hsz : zs.length < 4611686018427387904) :
    Calls Tryd.prog 126 #[.slice (some ⟨blk, off, none⟩) zs.length cap] w fun e w' =>
      e = .returned (.tuple #[]) ∧ ∃ n os, w' = grow (putRow (Value.int .i64) (Sort.ahead w n) blk off (zs.mergeSort fun x y => decide (x ≤ y)).toArray) os :=
  Any.slices_Sort_int YtlfpfeidaohjmaaDoor.laysSort blk off cap zs w hH hblk hsz
theorem compact_walk (blk off cap : Nat) (zs : List Int) (w : World) (hH : Holds (Value.int .i64) w blk off zs.toArray) (hsz : zs.length ≤ 9223372036854775807) (hcap : zs.length ≤ cap) :
    Calls Tryd.prog 130 #[.slice (some ⟨blk, off, none⟩) zs.length cap] w fun e w' =>
      e = .returned (.slice (some ⟨blk, off, none⟩) (Lib.compact zs).length cap) ∧ ∃ q, w' = putRow (Value.int .i64) (Sort.ahead w q) blk off (Lib.compact zs ++ List.replicate (zs.length - (Lib.compact zs).length) 0).toArray :=
  calls_of_every_depth fun D => AnyS.slices_Compact_int_in YtlfpfeidaohjmaaDoor.laysCompact D blk off cap zs w hH hsz hcap
end Go.Proofs.YtlfpfeidaohjmaaDoor
