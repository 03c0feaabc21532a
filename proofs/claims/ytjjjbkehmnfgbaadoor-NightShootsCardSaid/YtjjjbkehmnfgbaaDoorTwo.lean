/- A region whose order is open: what looks at no world, then what reads old cells, then what looks at no world but waited for those; two orders are left of the rest. Nothing of a program stands here. -/
import Derived.Test.YtjjjbkehmnfgbaaDoorTake
set_option linter.unusedSimpArgs false
set_option linter.unusedVariables false
namespace Go.Grow
open Go Go.RowKit
section
variable {P : Program} {ops : Array Oper} {md : Region.Mode} {Q : Exit → Act → World → Prop}
theorem wpAny_two {l : List Oper} (hl : ∀ i : Nat, l[i]? = ops[i]?) (i1 i2 : Nat) (t1 t2 : List Nat) {n : Nat} (h1n : (Nat.beq t1.length n) = true) (h2n : (Nat.beq t2.length n) = true) (listed : Array Bool)
    (hr : decide (Region.ready md ops listed = [i1, i2]) = true) (h1 : tailB md ops t1 (listed.setIfInBounds i1 true) = true) (h2 : tailB md ops t2 (listed.setIfInBounds i2 true) = true)
    (a : Act) (w : World) (H1 : wpList P ops Q (pick l (i1 :: t1)) a w) (H2 : wpList P ops Q (pick l (i2 :: t2)) a w) : wpAny P md ops Q (n + 1) listed a w := by
  have hr' := of_decide_eq_true hr
  obtain rfl := Nat.eq_of_beq_eq_true h1n
  have h2n' := Nat.eq_of_beq_eq_true h2n
  refine ⟨fun h3 => (by rw [hr'] at h3; cases h3), fun j hj => ?_⟩
  have hj0 := hj
  rw [hr'] at hj
  obtain ⟨_, o, ho, _⟩ := mem_ready.1 hj0
  have go : ∀ t : List Nat, wpList P ops Q (pick l (j :: t)) a w → wpOp P ops Q j (wpList P ops Q (pick l t)) a w := fun t h => by
    rw [show pick l (j :: t) = o :: pick l t by simp [pick, hl j, ho]] at h
    unfold wpOp
    simp only [ho]
    exact h
  rcases (by simpa using hj : j = i1 ∨ j = i2) with e | e
  · rw [← e] at H1 h1
    exact wpOp_mono (fun a' w' h' => wpAny_tail hl t1 _ a' w' h1 h') (go t1 H1)
  · rw [← e] at H2 h2
    rw [← h2n']
    exact wpOp_mono (fun a' w' h' => wpAny_tail hl t2 _ a' w' h2 h') (go t2 H2)

theorem wp_region_reads2 {id : Nat} {a : Act} {w : World} {l : List Oper} (head reads head2 : List Nat) (i1 i2 : Nat) (t1 t2 : List Nat) (hm : P.follows .mixedOrders = true)
    (hsel : Region.noSelect l.toArray = true) (hlen : (Nat.beq (head.length + (reads.length + (head2.length + (t1.length + 1)))) l.length) = true) (hlen2 : (Nat.beq t2.length t1.length) = true)
    (hB : headB .any l.toArray head (Array.replicate l.length false) = true) (hR : readsB .any l.toArray reads (marked (Array.replicate l.length false) head) = true)
    (hB2 : headB .any l.toArray head2 (marked (marked (Array.replicate l.length false) head) reads) = true)
    (hr : decide (Region.ready .any l.toArray (marked (marked (marked (Array.replicate l.length false) head) reads) head2) = [i1, i2]) = true)
    (h1 : tailB .any l.toArray t1 ((marked (marked (marked (Array.replicate l.length false) head) reads) head2).setIfInBounds i1 true) = true)
    (h2 : tailB .any l.toArray t2 ((marked (marked (marked (Array.replicate l.length false) head) reads) head2).setIfInBounds i2 true) = true)
    (hQ : ∀ c a d v w, Q (.panic c) (Act.put a d v) w → Q (.panic c) a w)
    (h : wpQuiet P l.toArray (fun _ => True) (fun a' => wpQuiet P l.toArray (fun w' => ∃ y, w' = over w y) (fun a'' => wpQuiet P l.toArray (fun _ => True) (fun a3 =>
      wpList P l.toArray Q (pick l (i1 :: t1)) a3 w.drew ∧ wpList P l.toArray Q (pick l (i2 :: t2)) a3 w.drew) (pick l head2) a'') (pick l reads) a') (pick l head) a) : (Code.region id l.toArray true).wp P Q a w := by
  have hl : ∀ i : Nat, l[i]? = l.toArray[i]? := fun i => by simp
  have e : (fun w' => ∃ y, w' = over w y) = fun w' => Below w.heap.size w w' := funext fun w' => propext (over_iff w w')
  rw [e] at h
  refine wp_region_reads head reads (head2.length + (t1.length + 1)) hm hsel hlen hB hR hQ ?_
  refine wpQuiet_weaken (fun a' ha => ?_) _ _ h
  refine wpQuiet_weaken (fun a'' ha' => ?_) _ _ ha
  exact wpAny_head hl hsel hQ head2 _ _ hB2 ha' fun a3 ha3 => wpAny_two hl i1 i2 t1 t2 (by simp) hlen2 _ hr h1 h2 a3 _ ha3.1 ha3.2
end
end Go.Grow
