/- The document's mount is new. -/
import Derived.Test.YtlfpfeidaohjmaaDoorRw4
set_option linter.unusedSimpArgs false
set_option linter.unusedVariables false
namespace Go.Proofs.YtlfpfeidaohjmaaDoor
open Go.RowKit Go.Grow Go.Mo

/-- What the document's New leaves, where there is a mount. -/
def RMade (A B : Lim) (n : Int) (w : World) (e : Ending) (w' : World) : Prop :=
  ∃ b, w.heap.size ≤ b ∧ e = .returned (.tuple #[.pointer (some ⟨b, 0, none⟩), .int .i64 0]) ∧ Known w' b (rCells (rf0 A B n)) ∧ Below w.heap.size w w'
theorem newE_cases (A B : Lim) (n : Int) : (bad A = true ∧ newE A B n = 5) ∨ ((bad A = false ∧ bad B = true) ∧ newE A B n = 5) ∨ ((bad A = false ∧ bad B = false ∧ n < 1) ∧ newE A B n = 5) ∨ ((bad A = false ∧ bad B = false ∧ ¬ n < 1 ∧ wide A = true) ∧ newE A B n = 2)
    ∨ ((bad A = false ∧ bad B = false ∧ ¬ n < 1 ∧ wide A = false ∧ wide B = true) ∧ newE A B n = 2) ∨ ((bad A = false ∧ bad B = false ∧ ¬ n < 1 ∧ wide A = false ∧ wide B = false ∧ 1099511627776 < n) ∧ newE A B n = 2)
    ∨ ((bad A = false ∧ bad B = false ∧ ¬ n < 1 ∧ wide A = false ∧ wide B = false ∧ ¬ 1099511627776 < n) ∧ newE A B n = 0) := by
  unfold newE
  cases hA : bad A <;> cases hB : bad B <;> by_cases hn : n < 1 <;> cases hC : wide A <;> cases hD : wide B <;> by_cases hN : 1099511627776 < n <;> simp [hn, hN]

set_option maxRecDepth 100000 in
set_option maxHeartbeats 4000000 in
theorem mountOf_0 (A B : Lim) (n : Int) (hA : bad A = true) (w : World) :
    Calls Tryd.prog 36 #[limV A, limV B, .int .i64 n] w fun e w' => e = .returned (.tuple #[.pointer none, .int .i64 5]) ∧ Below w.heap.size w w' := by
  have g : Hid (Below w.heap.size w w) := Lib.hid (Below.refl _ _)
  have SA := Lib.hid (fun w => shape_walk A w)
  have SB := Lib.hid (fun w => shape_walk B w)
  have WA := Lib.hid (fun w => limits_large A w)
  have WB := Lib.hid (fun w => limits_large B w)
  have LN := Lib.hid (fun w => large_walk n w)
  unfold limV at *
  rw [hA] at SA
  rw [Bool.not_true] at SA
  clear hA
  have r0 := trivial
  go_enter Tryd.func36, Tryd.ntmps36
  go_upto_region 1 with (fail)
  refine Grow.seal_wp ?_
  intro W hW
  have g2 : Hid (Below w.heap.size w W) := Lib.hid (by
    rw [hW.out]
    (repeat (with_reducible first | exact g.out | refine Grow.grow_setCell ?_ ?_ _ | refine Grow.grow_alloc ?_ _ | refine Grow.grow_drewN ?_ _ | refine Grow.grow_drew ?_)) <;> omega)
  apply Grow.have_known (W := W) (b := w.heap.size)
  · rw [hW.out]
    (repeat (with_reducible first | exact Known.new _ _ _ | (apply Known.new'; (first | rfl | (simp; done))) | apply Known.same | apply Known.other | apply Known.alloc | apply Known.drewN | apply Known.drew)) <;> omega
  intro r3
  (try simp only [List.setIfInBounds_toArray, List.set_cons_zero, List.set_cons_succ] at r3)
  apply Grow.have_known (W := W) (b := w.heap.size + 1)
  · rw [hW.out]
    (repeat (with_reducible first | exact Known.new _ _ _ | (apply Known.new'; (first | rfl | (simp; done))) | apply Known.same | apply Known.other | apply Known.alloc | apply Known.drewN | apply Known.drew)) <;> omega
  intro r4
  (try simp only [List.setIfInBounds_toArray, List.set_cons_zero, List.set_cons_succ] at r4)
  clear hW g
  have g := g2
  clear g2
  have cr3 := r3.cell
  have fr3 := r3.frozen
  have lr3 := r3.lt
  have cr4 := r4.cell
  have fr4 := r4.frozen
  have lr4 := r4.lt
  clear r0
  go_wp2_with (first
      | (go_at_call 81; (first | (with_reducible refine (SA.out _).mono ?_) | (with_reducible refine (SB.out _).mono ?_)); rintro e w1 ⟨rfl, hB⟩; clear cr3 fr3 lr3 cr4 fr4 lr4; replace r3 := r3.below hB; replace r4 := r4.below hB; replace g : Hid (Below w.heap.size w w1) := Lib.hid (grow_trans g.out hB); clear hB; have cr3 := r3.cell; have fr3 := r3.frozen; have lr3 := r3.lt; have cr4 := r4.cell; have fr4 := r4.frozen; have lr4 := r4.lt)
      | (go_at_call 82; (first | (with_reducible refine (WA.out _).mono ?_) | (with_reducible refine (WB.out _).mono ?_)); rintro e w1 ⟨rfl, hB⟩; clear cr3 fr3 lr3 cr4 fr4 lr4; replace r3 := r3.below hB; replace r4 := r4.below hB; replace g : Hid (Below w.heap.size w w1) := Lib.hid (grow_trans g.out hB); clear hB; have cr3 := r3.cell; have fr3 := r3.frozen; have lr3 := r3.lt; have cr4 := r4.cell; have fr4 := r4.frozen; have lr4 := r4.lt)
      | (go_at_call 83; (with_reducible refine (LN.out _).mono ?_); rintro e w1 ⟨rfl, rfl⟩))
  go_ret2
  exact ⟨rfl, g.out⟩

set_option maxRecDepth 100000 in
set_option maxHeartbeats 4000000 in
theorem mountOf_1 (A B : Lim) (n : Int) (hA : bad A = false ∧ bad B = true) (w : World) :
    Calls Tryd.prog 36 #[limV A, limV B, .int .i64 n] w fun e w' => e = .returned (.tuple #[.pointer none, .int .i64 5]) ∧ Below w.heap.size w w' := by
  have g : Hid (Below w.heap.size w w) := Lib.hid (Below.refl _ _)
  have SA := Lib.hid (fun w => shape_walk A w)
  have SB := Lib.hid (fun w => shape_walk B w)
  have WA := Lib.hid (fun w => limits_large A w)
  have WB := Lib.hid (fun w => limits_large B w)
  have LN := Lib.hid (fun w => large_walk n w)
  unfold limV at *
  rw [hA.1] at SA
  rw [Bool.not_false] at SA
  rw [hA.2] at SB
  rw [Bool.not_true] at SB
  clear hA
  have r0 := trivial
  go_enter Tryd.func36, Tryd.ntmps36
  go_upto_region 1 with (fail)
  refine Grow.seal_wp ?_
  intro W hW
  have g2 : Hid (Below w.heap.size w W) := Lib.hid (by
    rw [hW.out]
    (repeat (with_reducible first | exact g.out | refine Grow.grow_setCell ?_ ?_ _ | refine Grow.grow_alloc ?_ _ | refine Grow.grow_drewN ?_ _ | refine Grow.grow_drew ?_)) <;> omega)
  apply Grow.have_known (W := W) (b := w.heap.size)
  · rw [hW.out]
    (repeat (with_reducible first | exact Known.new _ _ _ | (apply Known.new'; (first | rfl | (simp; done))) | apply Known.same | apply Known.other | apply Known.alloc | apply Known.drewN | apply Known.drew)) <;> omega
  intro r3
  (try simp only [List.setIfInBounds_toArray, List.set_cons_zero, List.set_cons_succ] at r3)
  apply Grow.have_known (W := W) (b := w.heap.size + 1)
  · rw [hW.out]
    (repeat (with_reducible first | exact Known.new _ _ _ | (apply Known.new'; (first | rfl | (simp; done))) | apply Known.same | apply Known.other | apply Known.alloc | apply Known.drewN | apply Known.drew)) <;> omega
  intro r4
  (try simp only [List.setIfInBounds_toArray, List.set_cons_zero, List.set_cons_succ] at r4)
  clear hW g
  have g := g2
  clear g2
  have cr3 := r3.cell
  have fr3 := r3.frozen
  have lr3 := r3.lt
  have cr4 := r4.cell
  have fr4 := r4.frozen
  have lr4 := r4.lt
  clear r0
  go_wp2_with (first
      | (go_at_call 81; (first | (with_reducible refine (SA.out _).mono ?_) | (with_reducible refine (SB.out _).mono ?_)); rintro e w1 ⟨rfl, hB⟩; clear cr3 fr3 lr3 cr4 fr4 lr4; replace r3 := r3.below hB; replace r4 := r4.below hB; replace g : Hid (Below w.heap.size w w1) := Lib.hid (grow_trans g.out hB); clear hB; have cr3 := r3.cell; have fr3 := r3.frozen; have lr3 := r3.lt; have cr4 := r4.cell; have fr4 := r4.frozen; have lr4 := r4.lt)
      | (go_at_call 82; (first | (with_reducible refine (WA.out _).mono ?_) | (with_reducible refine (WB.out _).mono ?_)); rintro e w1 ⟨rfl, hB⟩; clear cr3 fr3 lr3 cr4 fr4 lr4; replace r3 := r3.below hB; replace r4 := r4.below hB; replace g : Hid (Below w.heap.size w w1) := Lib.hid (grow_trans g.out hB); clear hB; have cr3 := r3.cell; have fr3 := r3.frozen; have lr3 := r3.lt; have cr4 := r4.cell; have fr4 := r4.frozen; have lr4 := r4.lt)
      | (go_at_call 83; (with_reducible refine (LN.out _).mono ?_); rintro e w1 ⟨rfl, rfl⟩))
  go_ret2
  exact ⟨rfl, g.out⟩

set_option maxRecDepth 100000 in
set_option maxHeartbeats 4000000 in
theorem mountOf_2 (A B : Lim) (n : Int) (hA : bad A = false ∧ bad B = false ∧ n < 1) (w : World) :
    Calls Tryd.prog 36 #[limV A, limV B, .int .i64 n] w fun e w' => e = .returned (.tuple #[.pointer none, .int .i64 5]) ∧ Below w.heap.size w w' := by
  have g : Hid (Below w.heap.size w w) := Lib.hid (Below.refl _ _)
  have SA := Lib.hid (fun w => shape_walk A w)
  have SB := Lib.hid (fun w => shape_walk B w)
  have WA := Lib.hid (fun w => limits_large A w)
  have WB := Lib.hid (fun w => limits_large B w)
  have LN := Lib.hid (fun w => large_walk n w)
  unfold limV at *
  rw [hA.1] at SA
  rw [Bool.not_false] at SA
  rw [hA.2.1] at SB
  rw [Bool.not_false] at SB
  have d1 : decide (n < 1) = true := decide_eq_true hA.2.2
  clear hA
  have r0 := trivial
  go_enter Tryd.func36, Tryd.ntmps36
  go_upto_region 1 with (fail)
  refine Grow.seal_wp ?_
  intro W hW
  have g2 : Hid (Below w.heap.size w W) := Lib.hid (by
    rw [hW.out]
    (repeat (with_reducible first | exact g.out | refine Grow.grow_setCell ?_ ?_ _ | refine Grow.grow_alloc ?_ _ | refine Grow.grow_drewN ?_ _ | refine Grow.grow_drew ?_)) <;> omega)
  apply Grow.have_known (W := W) (b := w.heap.size)
  · rw [hW.out]
    (repeat (with_reducible first | exact Known.new _ _ _ | (apply Known.new'; (first | rfl | (simp; done))) | apply Known.same | apply Known.other | apply Known.alloc | apply Known.drewN | apply Known.drew)) <;> omega
  intro r3
  (try simp only [List.setIfInBounds_toArray, List.set_cons_zero, List.set_cons_succ] at r3)
  apply Grow.have_known (W := W) (b := w.heap.size + 1)
  · rw [hW.out]
    (repeat (with_reducible first | exact Known.new _ _ _ | (apply Known.new'; (first | rfl | (simp; done))) | apply Known.same | apply Known.other | apply Known.alloc | apply Known.drewN | apply Known.drew)) <;> omega
  intro r4
  (try simp only [List.setIfInBounds_toArray, List.set_cons_zero, List.set_cons_succ] at r4)
  clear hW g
  have g := g2
  clear g2
  have cr3 := r3.cell
  have fr3 := r3.frozen
  have lr3 := r3.lt
  have cr4 := r4.cell
  have fr4 := r4.frozen
  have lr4 := r4.lt
  clear r0
  go_wp2_with (first
      | (go_at_call 81; (first | (with_reducible refine (SA.out _).mono ?_) | (with_reducible refine (SB.out _).mono ?_)); rintro e w1 ⟨rfl, hB⟩; clear cr3 fr3 lr3 cr4 fr4 lr4; replace r3 := r3.below hB; replace r4 := r4.below hB; replace g : Hid (Below w.heap.size w w1) := Lib.hid (grow_trans g.out hB); clear hB; have cr3 := r3.cell; have fr3 := r3.frozen; have lr3 := r3.lt; have cr4 := r4.cell; have fr4 := r4.frozen; have lr4 := r4.lt)
      | (go_at_call 82; (first | (with_reducible refine (WA.out _).mono ?_) | (with_reducible refine (WB.out _).mono ?_)); rintro e w1 ⟨rfl, hB⟩; clear cr3 fr3 lr3 cr4 fr4 lr4; replace r3 := r3.below hB; replace r4 := r4.below hB; replace g : Hid (Below w.heap.size w w1) := Lib.hid (grow_trans g.out hB); clear hB; have cr3 := r3.cell; have fr3 := r3.frozen; have lr3 := r3.lt; have cr4 := r4.cell; have fr4 := r4.frozen; have lr4 := r4.lt)
      | (go_at_call 83; (with_reducible refine (LN.out _).mono ?_); rintro e w1 ⟨rfl, rfl⟩))
  go_ret2
  exact ⟨rfl, g.out⟩

set_option maxRecDepth 100000 in
set_option maxHeartbeats 4000000 in
theorem mountOf_3 (A B : Lim) (n : Int) (hA : bad A = false ∧ bad B = false ∧ ¬ n < 1 ∧ wide A = true) (w : World) :
    Calls Tryd.prog 36 #[limV A, limV B, .int .i64 n] w fun e w' => e = .returned (.tuple #[.pointer none, .int .i64 2]) ∧ Below w.heap.size w w' := by
  have g : Hid (Below w.heap.size w w) := Lib.hid (Below.refl _ _)
  have SA := Lib.hid (fun w => shape_walk A w)
  have SB := Lib.hid (fun w => shape_walk B w)
  have WA := Lib.hid (fun w => limits_large A w)
  have WB := Lib.hid (fun w => limits_large B w)
  have LN := Lib.hid (fun w => large_walk n w)
  unfold limV at *
  rw [hA.1] at SA
  rw [Bool.not_false] at SA
  rw [hA.2.1] at SB
  rw [Bool.not_false] at SB
  have d1 : decide (n < 1) = false := decide_eq_false hA.2.2.1
  rw [hA.2.2.2] at WA
  clear hA
  have r0 := trivial
  go_enter Tryd.func36, Tryd.ntmps36
  go_upto_region 1 with (fail)
  refine Grow.seal_wp ?_
  intro W hW
  have g2 : Hid (Below w.heap.size w W) := Lib.hid (by
    rw [hW.out]
    (repeat (with_reducible first | exact g.out | refine Grow.grow_setCell ?_ ?_ _ | refine Grow.grow_alloc ?_ _ | refine Grow.grow_drewN ?_ _ | refine Grow.grow_drew ?_)) <;> omega)
  apply Grow.have_known (W := W) (b := w.heap.size)
  · rw [hW.out]
    (repeat (with_reducible first | exact Known.new _ _ _ | (apply Known.new'; (first | rfl | (simp; done))) | apply Known.same | apply Known.other | apply Known.alloc | apply Known.drewN | apply Known.drew)) <;> omega
  intro r3
  (try simp only [List.setIfInBounds_toArray, List.set_cons_zero, List.set_cons_succ] at r3)
  apply Grow.have_known (W := W) (b := w.heap.size + 1)
  · rw [hW.out]
    (repeat (with_reducible first | exact Known.new _ _ _ | (apply Known.new'; (first | rfl | (simp; done))) | apply Known.same | apply Known.other | apply Known.alloc | apply Known.drewN | apply Known.drew)) <;> omega
  intro r4
  (try simp only [List.setIfInBounds_toArray, List.set_cons_zero, List.set_cons_succ] at r4)
  clear hW g
  have g := g2
  clear g2
  have cr3 := r3.cell
  have fr3 := r3.frozen
  have lr3 := r3.lt
  have cr4 := r4.cell
  have fr4 := r4.frozen
  have lr4 := r4.lt
  clear r0
  go_wp2_with (first
      | (go_at_call 81; (first | (with_reducible refine (SA.out _).mono ?_) | (with_reducible refine (SB.out _).mono ?_)); rintro e w1 ⟨rfl, hB⟩; clear cr3 fr3 lr3 cr4 fr4 lr4; replace r3 := r3.below hB; replace r4 := r4.below hB; replace g : Hid (Below w.heap.size w w1) := Lib.hid (grow_trans g.out hB); clear hB; have cr3 := r3.cell; have fr3 := r3.frozen; have lr3 := r3.lt; have cr4 := r4.cell; have fr4 := r4.frozen; have lr4 := r4.lt)
      | (go_at_call 82; (first | (with_reducible refine (WA.out _).mono ?_) | (with_reducible refine (WB.out _).mono ?_)); rintro e w1 ⟨rfl, hB⟩; clear cr3 fr3 lr3 cr4 fr4 lr4; replace r3 := r3.below hB; replace r4 := r4.below hB; replace g : Hid (Below w.heap.size w w1) := Lib.hid (grow_trans g.out hB); clear hB; have cr3 := r3.cell; have fr3 := r3.frozen; have lr3 := r3.lt; have cr4 := r4.cell; have fr4 := r4.frozen; have lr4 := r4.lt)
      | (go_at_call 83; (with_reducible refine (LN.out _).mono ?_); rintro e w1 ⟨rfl, rfl⟩))
  go_ret2
  exact ⟨rfl, g.out⟩

set_option maxRecDepth 100000 in
set_option maxHeartbeats 4000000 in
theorem mountOf_4 (A B : Lim) (n : Int) (hA : bad A = false ∧ bad B = false ∧ ¬ n < 1 ∧ wide A = false ∧ wide B = true) (w : World) :
    Calls Tryd.prog 36 #[limV A, limV B, .int .i64 n] w fun e w' => e = .returned (.tuple #[.pointer none, .int .i64 2]) ∧ Below w.heap.size w w' := by
  have g : Hid (Below w.heap.size w w) := Lib.hid (Below.refl _ _)
  have SA := Lib.hid (fun w => shape_walk A w)
  have SB := Lib.hid (fun w => shape_walk B w)
  have WA := Lib.hid (fun w => limits_large A w)
  have WB := Lib.hid (fun w => limits_large B w)
  have LN := Lib.hid (fun w => large_walk n w)
  unfold limV at *
  rw [hA.1] at SA
  rw [Bool.not_false] at SA
  rw [hA.2.1] at SB
  rw [Bool.not_false] at SB
  have d1 : decide (n < 1) = false := decide_eq_false hA.2.2.1
  rw [hA.2.2.2.1] at WA
  rw [hA.2.2.2.2] at WB
  clear hA
  have r0 := trivial
  go_enter Tryd.func36, Tryd.ntmps36
  go_upto_region 1 with (fail)
  refine Grow.seal_wp ?_
  intro W hW
  have g2 : Hid (Below w.heap.size w W) := Lib.hid (by
    rw [hW.out]
    (repeat (with_reducible first | exact g.out | refine Grow.grow_setCell ?_ ?_ _ | refine Grow.grow_alloc ?_ _ | refine Grow.grow_drewN ?_ _ | refine Grow.grow_drew ?_)) <;> omega)
  apply Grow.have_known (W := W) (b := w.heap.size)
  · rw [hW.out]
    (repeat (with_reducible first | exact Known.new _ _ _ | (apply Known.new'; (first | rfl | (simp; done))) | apply Known.same | apply Known.other | apply Known.alloc | apply Known.drewN | apply Known.drew)) <;> omega
  intro r3
  (try simp only [List.setIfInBounds_toArray, List.set_cons_zero, List.set_cons_succ] at r3)
  apply Grow.have_known (W := W) (b := w.heap.size + 1)
  · rw [hW.out]
    (repeat (with_reducible first | exact Known.new _ _ _ | (apply Known.new'; (first | rfl | (simp; done))) | apply Known.same | apply Known.other | apply Known.alloc | apply Known.drewN | apply Known.drew)) <;> omega
  intro r4
  (try simp only [List.setIfInBounds_toArray, List.set_cons_zero, List.set_cons_succ] at r4)
  clear hW g
  have g := g2
  clear g2
  have cr3 := r3.cell
  have fr3 := r3.frozen
  have lr3 := r3.lt
  have cr4 := r4.cell
  have fr4 := r4.frozen
  have lr4 := r4.lt
  clear r0
  go_wp2_with (first
      | (go_at_call 81; (first | (with_reducible refine (SA.out _).mono ?_) | (with_reducible refine (SB.out _).mono ?_)); rintro e w1 ⟨rfl, hB⟩; clear cr3 fr3 lr3 cr4 fr4 lr4; replace r3 := r3.below hB; replace r4 := r4.below hB; replace g : Hid (Below w.heap.size w w1) := Lib.hid (grow_trans g.out hB); clear hB; have cr3 := r3.cell; have fr3 := r3.frozen; have lr3 := r3.lt; have cr4 := r4.cell; have fr4 := r4.frozen; have lr4 := r4.lt)
      | (go_at_call 82; (first | (with_reducible refine (WA.out _).mono ?_) | (with_reducible refine (WB.out _).mono ?_)); rintro e w1 ⟨rfl, hB⟩; clear cr3 fr3 lr3 cr4 fr4 lr4; replace r3 := r3.below hB; replace r4 := r4.below hB; replace g : Hid (Below w.heap.size w w1) := Lib.hid (grow_trans g.out hB); clear hB; have cr3 := r3.cell; have fr3 := r3.frozen; have lr3 := r3.lt; have cr4 := r4.cell; have fr4 := r4.frozen; have lr4 := r4.lt)
      | (go_at_call 83; (with_reducible refine (LN.out _).mono ?_); rintro e w1 ⟨rfl, rfl⟩))
  go_ret2
  exact ⟨rfl, g.out⟩

set_option maxRecDepth 100000 in
set_option maxHeartbeats 4000000 in
theorem mountOf_5 (A B : Lim) (n : Int) (hA : bad A = false ∧ bad B = false ∧ ¬ n < 1 ∧ wide A = false ∧ wide B = false ∧ 1099511627776 < n) (w : World) :
    Calls Tryd.prog 36 #[limV A, limV B, .int .i64 n] w fun e w' => e = .returned (.tuple #[.pointer none, .int .i64 2]) ∧ Below w.heap.size w w' := by
  have g : Hid (Below w.heap.size w w) := Lib.hid (Below.refl _ _)
  have SA := Lib.hid (fun w => shape_walk A w)
  have SB := Lib.hid (fun w => shape_walk B w)
  have WA := Lib.hid (fun w => limits_large A w)
  have WB := Lib.hid (fun w => limits_large B w)
  have LN := Lib.hid (fun w => large_walk n w)
  unfold limV at *
  rw [hA.1] at SA
  rw [Bool.not_false] at SA
  rw [hA.2.1] at SB
  rw [Bool.not_false] at SB
  have d1 : decide (n < 1) = false := decide_eq_false hA.2.2.1
  rw [hA.2.2.2.1] at WA
  rw [hA.2.2.2.2.1] at WB
  have lb : big n = true := by have h1 := hA.2.2.1; have h2 := hA.2.2.2.2.2; simp only [big]; simp; omega
  rw [lb] at LN
  clear lb
  clear hA
  have r0 := trivial
  go_enter Tryd.func36, Tryd.ntmps36
  go_upto_region 1 with (fail)
  refine Grow.seal_wp ?_
  intro W hW
  have g2 : Hid (Below w.heap.size w W) := Lib.hid (by
    rw [hW.out]
    (repeat (with_reducible first | exact g.out | refine Grow.grow_setCell ?_ ?_ _ | refine Grow.grow_alloc ?_ _ | refine Grow.grow_drewN ?_ _ | refine Grow.grow_drew ?_)) <;> omega)
  apply Grow.have_known (W := W) (b := w.heap.size)
  · rw [hW.out]
    (repeat (with_reducible first | exact Known.new _ _ _ | (apply Known.new'; (first | rfl | (simp; done))) | apply Known.same | apply Known.other | apply Known.alloc | apply Known.drewN | apply Known.drew)) <;> omega
  intro r3
  (try simp only [List.setIfInBounds_toArray, List.set_cons_zero, List.set_cons_succ] at r3)
  apply Grow.have_known (W := W) (b := w.heap.size + 1)
  · rw [hW.out]
    (repeat (with_reducible first | exact Known.new _ _ _ | (apply Known.new'; (first | rfl | (simp; done))) | apply Known.same | apply Known.other | apply Known.alloc | apply Known.drewN | apply Known.drew)) <;> omega
  intro r4
  (try simp only [List.setIfInBounds_toArray, List.set_cons_zero, List.set_cons_succ] at r4)
  clear hW g
  have g := g2
  clear g2
  have cr3 := r3.cell
  have fr3 := r3.frozen
  have lr3 := r3.lt
  have cr4 := r4.cell
  have fr4 := r4.frozen
  have lr4 := r4.lt
  clear r0
  go_wp2_with (first
      | (go_at_call 81; (first | (with_reducible refine (SA.out _).mono ?_) | (with_reducible refine (SB.out _).mono ?_)); rintro e w1 ⟨rfl, hB⟩; clear cr3 fr3 lr3 cr4 fr4 lr4; replace r3 := r3.below hB; replace r4 := r4.below hB; replace g : Hid (Below w.heap.size w w1) := Lib.hid (grow_trans g.out hB); clear hB; have cr3 := r3.cell; have fr3 := r3.frozen; have lr3 := r3.lt; have cr4 := r4.cell; have fr4 := r4.frozen; have lr4 := r4.lt)
      | (go_at_call 82; (first | (with_reducible refine (WA.out _).mono ?_) | (with_reducible refine (WB.out _).mono ?_)); rintro e w1 ⟨rfl, hB⟩; clear cr3 fr3 lr3 cr4 fr4 lr4; replace r3 := r3.below hB; replace r4 := r4.below hB; replace g : Hid (Below w.heap.size w w1) := Lib.hid (grow_trans g.out hB); clear hB; have cr3 := r3.cell; have fr3 := r3.frozen; have lr3 := r3.lt; have cr4 := r4.cell; have fr4 := r4.frozen; have lr4 := r4.lt)
      | (go_at_call 83; (with_reducible refine (LN.out _).mono ?_); rintro e w1 ⟨rfl, rfl⟩))
  go_ret2
  exact ⟨rfl, g.out⟩

set_option maxRecDepth 100000 in
set_option maxHeartbeats 4000000 in
theorem mountOf_6 (A B : Lim) (n : Int) (hA : bad A = false ∧ bad B = false ∧ ¬ n < 1 ∧ wide A = false ∧ wide B = false ∧ ¬ 1099511627776 < n) (w : World) :
    Calls Tryd.prog 36 #[limV A, limV B, .int .i64 n] w (RMade A B n w) := by
  have g : Hid (Below w.heap.size w w) := Lib.hid (Below.refl _ _)
  have SA := Lib.hid (fun w => shape_walk A w)
  have SB := Lib.hid (fun w => shape_walk B w)
  have WA := Lib.hid (fun w => limits_large A w)
  have WB := Lib.hid (fun w => limits_large B w)
  have LN := Lib.hid (fun w => large_walk n w)
  unfold limV at *
  rw [hA.1] at SA
  rw [Bool.not_false] at SA
  rw [hA.2.1] at SB
  rw [Bool.not_false] at SB
  have d1 : decide (n < 1) = false := decide_eq_false hA.2.2.1
  rw [hA.2.2.2.1] at WA
  rw [hA.2.2.2.2.1] at WB
  have lb : big n = false := by have h1 := hA.2.2.1; have h2 := hA.2.2.2.2.2; simp only [big]; simp; omega
  rw [lb] at LN
  clear lb
  clear hA
  have r0 := trivial
  go_enter Tryd.func36, Tryd.ntmps36
  go_upto_region 1 with (fail)
  refine Grow.seal_wp ?_
  intro W hW
  have g2 : Hid (Below w.heap.size w W) := Lib.hid (by
    rw [hW.out]
    (repeat (with_reducible first | exact g.out | refine Grow.grow_setCell ?_ ?_ _ | refine Grow.grow_alloc ?_ _ | refine Grow.grow_drewN ?_ _ | refine Grow.grow_drew ?_)) <;> omega)
  apply Grow.have_known (W := W) (b := w.heap.size)
  · rw [hW.out]
    (repeat (with_reducible first | exact Known.new _ _ _ | (apply Known.new'; (first | rfl | (simp; done))) | apply Known.same | apply Known.other | apply Known.alloc | apply Known.drewN | apply Known.drew)) <;> omega
  intro r3
  (try simp only [List.setIfInBounds_toArray, List.set_cons_zero, List.set_cons_succ] at r3)
  apply Grow.have_known (W := W) (b := w.heap.size + 1)
  · rw [hW.out]
    (repeat (with_reducible first | exact Known.new _ _ _ | (apply Known.new'; (first | rfl | (simp; done))) | apply Known.same | apply Known.other | apply Known.alloc | apply Known.drewN | apply Known.drew)) <;> omega
  intro r4
  (try simp only [List.setIfInBounds_toArray, List.set_cons_zero, List.set_cons_succ] at r4)
  clear hW g
  have g := g2
  clear g2
  have cr3 := r3.cell
  have fr3 := r3.frozen
  have lr3 := r3.lt
  have cr4 := r4.cell
  have fr4 := r4.frozen
  have lr4 := r4.lt
  clear r0
  go_wp2_with (first
      | (go_at_call 81; (first | (with_reducible refine (SA.out _).mono ?_) | (with_reducible refine (SB.out _).mono ?_)); rintro e w1 ⟨rfl, hB⟩; clear cr3 fr3 lr3 cr4 fr4 lr4; replace r3 := r3.below hB; replace r4 := r4.below hB; replace g : Hid (Below w.heap.size w w1) := Lib.hid (grow_trans g.out hB); clear hB; have cr3 := r3.cell; have fr3 := r3.frozen; have lr3 := r3.lt; have cr4 := r4.cell; have fr4 := r4.frozen; have lr4 := r4.lt)
      | (go_at_call 82; (first | (with_reducible refine (WA.out _).mono ?_) | (with_reducible refine (WB.out _).mono ?_)); rintro e w1 ⟨rfl, hB⟩; clear cr3 fr3 lr3 cr4 fr4 lr4; replace r3 := r3.below hB; replace r4 := r4.below hB; replace g : Hid (Below w.heap.size w w1) := Lib.hid (grow_trans g.out hB); clear hB; have cr3 := r3.cell; have fr3 := r3.frozen; have lr3 := r3.lt; have cr4 := r4.cell; have fr4 := r4.frozen; have lr4 := r4.lt)
      | (go_at_call 83; (with_reducible refine (LN.out _).mono ?_); rintro e w1 ⟨rfl, rfl⟩))
  go_ret2
  refine ⟨_, ?_, rfl, ?_, ?_⟩
  · have := g.out.size; omega
  · apply Known.of_eq
    · apply Known.new
    · rfl
  · exact grow_alloc g.out _

end Go.Proofs.YtlfpfeidaohjmaaDoor
