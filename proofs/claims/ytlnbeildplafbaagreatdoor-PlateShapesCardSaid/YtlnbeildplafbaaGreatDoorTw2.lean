/- A region whose order is open: what looks at no world, what reads old cells, once more so, and two orders of the rest. Nothing of a program stands here. -/
import Derived.Test.YtlnbeildplafbaaGreatDoorTwo
set_option linter.unusedSimpArgs false
set_option linter.unusedVariables false
namespace Go.Grow
open Go Go.RowKit
section
variable {P : Program} {ops : Array Oper} {md : Region.Mode} {Q : Exit → Act → World → Prop}
theorem wp_region_reads22 {id : Nat} {a : Act} {w : World} {l : List Oper} (head reads head2 reads2 : List Nat) (i1 i2 : Nat) (t1 t2 : List Nat) (hm : P.follows .mixedOrders = true)
    (hsel : Region.noSelect l.toArray = true) (hlen : (Nat.beq (head.length + (reads.length + (head2.length + (reads2.length + (t1.length + 1))))) l.length) = true) (hlen2 : (Nat.beq t2.length t1.length) = true)
    (hB : headB .any l.toArray head (Array.replicate l.length false) = true) (hR : readsB .any l.toArray reads (marked (Array.replicate l.length false) head) = true)
    (hB2 : headB .any l.toArray head2 (marked (marked (Array.replicate l.length false) head) reads) = true)
    (hR2 : readsB .any l.toArray reads2 (marked (marked (marked (Array.replicate l.length false) head) reads) head2) = true)
    (hr : decide (Region.ready .any l.toArray (marked (marked (marked (marked (Array.replicate l.length false) head) reads) head2) reads2) = [i1, i2]) = true)
    (h1 : tailB .any l.toArray t1 ((marked (marked (marked (marked (Array.replicate l.length false) head) reads) head2) reads2).setIfInBounds i1 true) = true)
    (h2 : tailB .any l.toArray t2 ((marked (marked (marked (marked (Array.replicate l.length false) head) reads) head2) reads2).setIfInBounds i2 true) = true)
    (hQ : ∀ c a d v w, Q (.panic c) (Act.put a d v) w → Q (.panic c) a w)
    (h : wpQuiet P l.toArray (fun _ => True) (fun a' => wpQuiet P l.toArray (fun w' => ∃ y, w' = over w y) (fun a'' => wpQuiet P l.toArray (fun _ => True) (fun a3 => wpQuiet P l.toArray (fun w' => ∃ y, w' = over w y) (fun a4 =>
      wpList P l.toArray Q (pick l (i1 :: t1)) a4 w.drew ∧ wpList P l.toArray Q (pick l (i2 :: t2)) a4 w.drew) (pick l reads2) a3) (pick l head2) a'') (pick l reads) a') (pick l head) a) : (Code.region id l.toArray true).wp P Q a w := by
  have hl : ∀ i : Nat, l[i]? = l.toArray[i]? := fun i => by simp
  have e : (fun w' => ∃ y, w' = over w y) = fun w' => Below w.heap.size w w' := funext fun w' => propext (over_iff w w')
  rw [e] at h
  refine wp_region_reads head reads (head2.length + (reads2.length + (t1.length + 1))) hm hsel hlen hB hR hQ ?_
  refine wpQuiet_weaken (fun a' ha => ?_) _ _ h
  refine wpQuiet_weaken (fun a'' ha' => ?_) _ _ ha
  exact wpAny_head hl hsel hQ head2 _ _ hB2 ha' fun a3 ha3 => wpAny_readsHead hl (fun w1 w2 h1 h2 => grow_trans h1 h2) hsel hQ (grow_drew (grow_refl w)) reads2 _ _ hR2 ha3 fun a4 ha4 => wpAny_two hl i1 i2 t1 t2 (by simp) hlen2 _ hr h1 h2 a4 _ ha4.1 ha4.2

/-- One operation, then K. -/
def oneK (P : Program) (ops : Array Oper) (Q : Exit → Act → World → Prop) (K : Act → World → Prop) (l : List Oper) (a : Act) (w : World) : Prop := wpList P ops (fun e a' w' => match e with
    | .normal => K a' w'
    | e => Q e a' w') l a w
theorem wpOp_of_oneK {i : Nat} {o : Oper} {K : Act → World → Prop} {a : Act} {w : World} (ho : ops[i]? = some o) (h : oneK P ops Q K [o] a w) : wpOp P ops Q i K a w := by
  unfold wpOp
  simp only [ho]
  unfold oneK wpList at h
  split
  · rename_i hw
    rw [if_pos hw] at h
    rcases h with h | ⟨h1, h2⟩
    · refine .inl ?_
      unfold Oper.wp at *
      generalize (execOp a.eval o).run P w = r at *
      cases r with
      | ok n w' =>
        cases n <;> simp only [Oper.upon, wpList] at h ⊢
        case enter f args =>
          refine Calls.mono h fun e w'' he => ?_
          cases e with
          | returned u => exact he
          | panicked c => exact he
          | outgrown => exact he
        all_goals exact h
      | halt x w' => cases x <;> simp only [Oper.upon] at h ⊢ <;> exact h
    · exact .inr ⟨h1, h2⟩
  · rename_i hw
    rw [if_neg hw] at h
    unfold wpList at h
    exact h
theorem wpAny_fork {l : List Oper} (hl : ∀ i : Nat, l[i]? = ops[i]?) (hsel : Region.noSelect ops = true) (hQ : ∀ c a d v w, Q (.panic c) (Act.put a d v) w → Q (.panic c) a w) (i1 i2 : Nat) (hd t1 t2 : List Nat) {n : Nat} (hn : (Nat.beq (hd.length + t1.length) n) = true) (hn2 : (Nat.beq (hd.length + t2.length + 1) n) = true) (listed : Array Bool)
    (hr : decide (Region.ready md ops listed = [i1, i2]) = true) (hr2 : decide (Region.ready md ops (listed.setIfInBounds i2 true) = [i1]) = true)
    (hd1 : headB md ops hd (listed.setIfInBounds i1 true) = true) (h1 : tailB md ops t1 (marked (listed.setIfInBounds i1 true) hd) = true)
    (hd2 : headB md ops hd ((listed.setIfInBounds i2 true).setIfInBounds i1 true) = true) (h2 : tailB md ops t2 (marked ((listed.setIfInBounds i2 true).setIfInBounds i1 true) hd) = true)
    (a : Act) (w : World)
    (H1 : oneK P ops Q (fun a' w' => wpQuiet P ops (fun _ => True) (fun a2 => wpList P ops Q (pick l t1) a2 w') (pick l hd) a') (pick l [i1]) a w)
    (H2 : oneK P ops Q (fun a0 w0 => oneK P ops Q (fun a' w' => wpQuiet P ops (fun _ => True) (fun a2 => wpList P ops Q (pick l t2) a2 w') (pick l hd) a') (pick l [i1]) a0 w0) (pick l [i2]) a w) : wpAny P md ops Q (n + 1) listed a w := by
  have hr' := of_decide_eq_true hr
  have hr2' := of_decide_eq_true hr2
  have e1 := Nat.eq_of_beq_eq_true hn
  have e2 := Nat.eq_of_beq_eq_true hn2
  have one : ∀ {j : Nat} {o : Oper}, ops[j]? = some o → pick l [j] = [o] := fun {j o} ho => by simp [pick, hl j, ho]
  refine ⟨fun h3 => (by rw [hr'] at h3; cases h3), fun j hj => ?_⟩
  have hj0 := hj
  rw [hr'] at hj
  obtain ⟨_, o, ho, _⟩ := mem_ready.1 hj0
  rcases (by simpa using hj : j = i1 ∨ j = i2) with e | e
  · subst e
    rw [one ho] at H1
    refine wpOp_mono (fun a' w' h' => ?_) (wpOp_of_oneK ho H1)
    rw [← e1]
    exact wpAny_head hl hsel hQ hd _ a' hd1 h' fun a2 h2' => wpAny_tail hl t1 _ a2 w' h1 h2'
  · subst e
    rw [one ho] at H2
    refine wpOp_mono (fun a' w' h' => ?_) (wpOp_of_oneK ho H2)
    rw [← e2]
    refine ⟨fun h3 => (by rw [hr2'] at h3; cases h3), fun k hk => ?_⟩
    have hk0 := hk
    rw [hr2'] at hk
    obtain ⟨_, o2, ho2, _⟩ := mem_ready.1 hk0
    obtain rfl : k = i1 := by simpa using hk
    rw [one ho2] at h'
    refine wpOp_mono (fun a2 w2 h2' => ?_) (wpOp_of_oneK ho2 h')
    exact wpAny_head hl hsel hQ hd _ a2 hd2 h2' fun a3 h3' => wpAny_tail hl t2 _ a3 w2 h2 h3'
/-- What looks at no world, what reads old cells, once more so; then a call and a free making of a cell, in either order. -/
theorem wp_region_fork {id : Nat} {a : Act} {w : World} {l : List Oper} (head reads head2 reads2 : List Nat) (i1 i2 : Nat) (hd t1 t2 : List Nat) (hm : P.follows .mixedOrders = true)
    (hsel : Region.noSelect l.toArray = true) (hlen : (Nat.beq (head.length + (reads.length + (head2.length + (reads2.length + (hd.length + t1.length + 1))))) l.length) = true) (hn2 : (Nat.beq (hd.length + t2.length + 1) (hd.length + t1.length)) = true)
    (hB : headB .any l.toArray head (Array.replicate l.length false) = true) (hR : readsB .any l.toArray reads (marked (Array.replicate l.length false) head) = true)
    (hB2 : headB .any l.toArray head2 (marked (marked (Array.replicate l.length false) head) reads) = true)
    (hR2 : readsB .any l.toArray reads2 (marked (marked (marked (Array.replicate l.length false) head) reads) head2) = true)
    (hr : decide (Region.ready .any l.toArray (marked (marked (marked (marked (Array.replicate l.length false) head) reads) head2) reads2) = [i1, i2]) = true)
    (hr2 : decide (Region.ready .any l.toArray ((marked (marked (marked (marked (Array.replicate l.length false) head) reads) head2) reads2).setIfInBounds i2 true) = [i1]) = true)
    (hd1 : headB .any l.toArray hd ((marked (marked (marked (marked (Array.replicate l.length false) head) reads) head2) reads2).setIfInBounds i1 true) = true)
    (h1 : tailB .any l.toArray t1 (marked ((marked (marked (marked (marked (Array.replicate l.length false) head) reads) head2) reads2).setIfInBounds i1 true) hd) = true)
    (hd2 : headB .any l.toArray hd (((marked (marked (marked (marked (Array.replicate l.length false) head) reads) head2) reads2).setIfInBounds i2 true).setIfInBounds i1 true) = true)
    (h2 : tailB .any l.toArray t2 (marked (((marked (marked (marked (marked (Array.replicate l.length false) head) reads) head2) reads2).setIfInBounds i2 true).setIfInBounds i1 true) hd) = true)
    (hQ : ∀ c a d v w, Q (.panic c) (Act.put a d v) w → Q (.panic c) a w)
    (h : wpQuiet P l.toArray (fun _ => True) (fun a' => wpQuiet P l.toArray (fun w' => ∃ y, w' = over w y) (fun a'' => wpQuiet P l.toArray (fun _ => True) (fun a3 => wpQuiet P l.toArray (fun w' => ∃ y, w' = over w y) (fun a4 =>
      oneK P l.toArray Q (fun a' w' => wpQuiet P l.toArray (fun _ => True) (fun a2 => wpList P l.toArray Q (pick l t1) a2 w') (pick l hd) a') (pick l [i1]) a4 w.drew ∧
      oneK P l.toArray Q (fun a0 w0 => oneK P l.toArray Q (fun a' w' => wpQuiet P l.toArray (fun _ => True) (fun a2 => wpList P l.toArray Q (pick l t2) a2 w') (pick l hd) a') (pick l [i1]) a0 w0) (pick l [i2]) a4 w.drew) (pick l reads2) a3) (pick l head2) a'') (pick l reads) a') (pick l head) a) : (Code.region id l.toArray true).wp P Q a w := by
  have hl : ∀ i : Nat, l[i]? = l.toArray[i]? := fun i => by simp
  have e : (fun w' => ∃ y, w' = over w y) = fun w' => Below w.heap.size w w' := funext fun w' => propext (over_iff w w')
  rw [e] at h
  refine wp_region_reads head reads (head2.length + (reads2.length + (hd.length + t1.length + 1))) hm hsel hlen hB hR hQ ?_
  refine wpQuiet_weaken (fun a' ha => ?_) _ _ h
  refine wpQuiet_weaken (fun a'' ha' => ?_) _ _ ha
  exact wpAny_head hl hsel hQ head2 _ _ hB2 ha' fun a3 ha3 => wpAny_readsHead hl (fun w1 w2 h1 h2 => grow_trans h1 h2) hsel hQ (grow_drew (grow_refl w)) reads2 _ _ hR2 ha3 fun a4 ha4 => wpAny_fork hl hsel hQ i1 i2 hd t1 t2 (by simp) hn2 _ hr hr2 hd1 h1 hd2 h2 a4 _ ha4.1 ha4.2
end
end Go.Grow
