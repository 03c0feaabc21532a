/- A region whose order is open: what looks at no world, then what reads old cells; one order is left of the rest. Nothing of a program stands here. -/
import Derived.Test.YtjjjbkehmnfgbaaDoorTwo
set_option linter.unusedSimpArgs false
set_option linter.unusedVariables false
namespace Go.Grow
open Go Go.RowKit
section
variable {P : Program} {ops : Array Oper} {md : Region.Mode} {Q : Exit → Act → World → Prop}
theorem wp_region_reads1 {id : Nat} {a : Act} {w : World} {l : List Oper} (head reads tail : List Nat) (hm : P.follows .mixedOrders = true)
    (hsel : Region.noSelect l.toArray = true) (hlen : (Nat.beq (head.length + (reads.length + tail.length)) l.length) = true)
    (hB : headB .any l.toArray head (Array.replicate l.length false) = true) (hR : readsB .any l.toArray reads (marked (Array.replicate l.length false) head) = true)
    (hT : tailB .any l.toArray tail (marked (marked (Array.replicate l.length false) head) reads) = true)
    (hQ : ∀ c a d v w, Q (.panic c) (Act.put a d v) w → Q (.panic c) a w)
    (h : wpQuiet P l.toArray (fun _ => True) (fun a' => wpQuiet P l.toArray (fun w' => ∃ y, w' = over w y) (fun a'' => wpList P l.toArray Q (pick l tail) a'' w.drew) (pick l reads) a') (pick l head) a) : (Code.region id l.toArray true).wp P Q a w := by
  have hl : ∀ i : Nat, l[i]? = l.toArray[i]? := fun i => by simp
  have e : (fun w' => ∃ y, w' = over w y) = fun w' => Below w.heap.size w w' := funext fun w' => propext (over_iff w w')
  rw [e] at h
  refine wp_region_reads head reads tail.length hm hsel hlen hB hR hQ ?_
  refine wpQuiet_weaken (fun a' ha => ?_) _ _ h
  exact wpQuiet_weaken (fun a'' ha' => wpAny_tail hl tail _ a'' _ hT ha') _ _ ha
end
end Go.Grow
