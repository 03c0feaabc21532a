/- The walk of the second Gibbs function. -/
import Derived.Test.YtdnclgpjcgamgaaS7
namespace Go.Proofs.Ytdnclgpjcgamgaa
open Go.RowKit Go.Fl Go.Grow

set_option maxRecDepth 10000 in
set_option maxHeartbeats 16000000 in
theorem gibbsOf_walk (p1 p2 p3 p4 p5 p6 p7 p8 p9 kk : Nat) (w : World) :
    Calls Try.prog 24 #[.agg #[.float .f64 p1, .float .f64 p2, .float .f64 p3], .agg #[.float .f64 p4, .float .f64 p5, .float .f64 p6], .agg #[.float .f64 p7, .float .f64 p8, .float .f64 p9], .float .f64 kk] w (Post (IsG (vfin (gibbsAt ⟨fl p1, fl p2, fl p3⟩ ⟨fl p4, fl p5, fl p6⟩ ⟨fl p7, fl p8, fl p9⟩ (fl kk)))) w) := by
  go_enter Try.func24, Try.ntmps24
  have s0 := trivial
  go_wp2_with (first
    | (refine wpList_arith rfl rfl (by rfl) rfl rfl ?_; intro b1 n1 H1)
    | (clear s0
       go_at_call 44
       refine Grow.seal_calls ?_
       intro W hW
       have HG : Hid (Below w.heap.size w W) := Lib.hid (by rw [hW.out]; (repeat (with_reducible first | exact Grow.grow_refl _ | refine Grow.grow_setCell ?_ ?_ _ | refine Grow.grow_alloc ?_ _ | refine Grow.grow_drewN ?_ _ | refine Grow.grow_over ?_ _ | refine Grow.grow_via (by assumption) ?_)) <;> omega)
       have HZ : w.heap.size ≤ W.heap.size := Below.size HG.out
       apply Grow.have_known (W := W)
       · rw [hW.out]; exact (((Known.new _ _ _).alloc _).alloc _).alloc _
       intro q4
       (try simp only [World.size_alloc] at q4)
       apply Grow.have_known (W := W)
       · rw [hW.out]; exact ((Known.new _ _ _).alloc _).alloc _
       intro q5
       (try simp only [World.size_alloc] at q5)
       apply Grow.have_known (W := W)
       · rw [hW.out]; exact (Known.new _ _ _).alloc _
       intro q6
       (try simp only [World.size_alloc] at q6)
       apply Grow.have_known (W := W)
       · rw [hW.out]; exact Known.new _ _ _
       intro q8
       (try simp only [World.size_alloc] at q8)
       clear hW
       refine (lengthOf_walk _ _ _ _).mono ?_
       rintro e w1 hp
       obtain ⟨v, rfl, hp, hB⟩ := hp
       obtain ⟨b, rfl, hb⟩ := hp
       have H := Lib.hid hb; clear hb
       replace q4 := q4.below hB
       replace q5 := q5.below hB
       replace q6 := q6.below hB
       replace q8 := q8.below hB
       replace HG : Hid (Below w.heap.size w w1) := Lib.hid (Grow.grow_trans HG.out hB)
       replace HZ : w.heap.size ≤ w1.heap.size := Below.size HG.out
       clear hB
       have c4 := q4.cell; have f4 := q4.frozen; have l4 := q4.lt
       have c5 := q5.cell; have f5 := q5.frozen; have l5 := q5.lt
       have c6 := q6.cell; have f6 := q6.frozen; have l6 := q6.lt
       have c8 := q8.cell; have f8 := q8.frozen; have l8 := q8.lt
       have s1 := trivial)
    | (clear s1
       go_at_call 44
       refine Grow.seal_calls ?_
       intro W hW
       have HG2 : Hid (Below w.heap.size w W) := Lib.hid (by rw [hW.out]; (repeat (with_reducible first | exact Grow.grow_refl _ | refine Grow.grow_setCell ?_ ?_ _ | refine Grow.grow_alloc ?_ _ | refine Grow.grow_drewN ?_ _ | refine Grow.grow_over ?_ _ | refine Grow.grow_via (by assumption) ?_)) <;> omega)
       clear HG
       have HG := HG2
       clear HG2
       clear c4 f4 c5 f5 c6 f6 c8 f8
       apply Grow.have_known (W := W)
       · rw [hW.out]; apply Known.at q4; (repeat (with_reducible first | exact q4 | apply Known.same | apply Known.other | apply Known.alloc | apply Known.drewN)) <;> omega
       clear q4
       intro q4
       (try simp only [List.setIfInBounds_toArray, List.set_cons_zero, List.set_cons_succ] at q4)
       apply Grow.have_known (W := W)
       · rw [hW.out]; apply Known.at q5; (repeat (with_reducible first | exact q5 | apply Known.same | apply Known.other | apply Known.alloc | apply Known.drewN)) <;> omega
       clear q5
       intro q5
       (try simp only [List.setIfInBounds_toArray, List.set_cons_zero, List.set_cons_succ] at q5)
       apply Grow.have_known (W := W)
       · rw [hW.out]; apply Known.at q6; (repeat (with_reducible first | exact q6 | apply Known.same | apply Known.other | apply Known.alloc | apply Known.drewN)) <;> omega
       clear q6
       intro q6
       (try simp only [List.setIfInBounds_toArray, List.set_cons_zero, List.set_cons_succ] at q6)
       apply Grow.have_known (W := W)
       · rw [hW.out]; apply Known.at q8; (repeat (with_reducible first | exact q8 | apply Known.same | apply Known.other | apply Known.alloc | apply Known.drewN)) <;> omega
       clear q8
       intro q8
       (try simp only [List.setIfInBounds_toArray, List.set_cons_zero, List.set_cons_succ] at q8)
       replace HZ : w.heap.size ≤ W.heap.size := Below.size HG.out
       clear hW
       refine (lengthOf_walk _ _ _ _).mono ?_
       rintro e w1 hp
       obtain ⟨v, rfl, hp, hB⟩ := hp
       obtain ⟨b, rfl, hb⟩ := hp
       have H := Lib.hid hb; clear hb
       replace q4 := q4.below hB
       replace q5 := q5.below hB
       replace q6 := q6.below hB
       replace q8 := q8.below hB
       replace HG : Hid (Below w.heap.size w w1) := Lib.hid (Grow.grow_trans HG.out hB)
       replace HZ : w.heap.size ≤ w1.heap.size := Below.size HG.out
       clear hB
       have c4 := q4.cell; have f4 := q4.frozen; have l4 := q4.lt
       have c5 := q5.cell; have f5 := q5.frozen; have l5 := q5.lt
       have c6 := q6.cell; have f6 := q6.frozen; have l6 := q6.lt
       have c8 := q8.cell; have f8 := q8.frozen; have l8 := q8.lt
       have s2 := trivial)
    | (clear s2
       go_at_call 44
       refine Grow.seal_calls ?_
       intro W hW
       have HG2 : Hid (Below w.heap.size w W) := Lib.hid (by rw [hW.out]; (repeat (with_reducible first | exact Grow.grow_refl _ | refine Grow.grow_setCell ?_ ?_ _ | refine Grow.grow_alloc ?_ _ | refine Grow.grow_drewN ?_ _ | refine Grow.grow_over ?_ _ | refine Grow.grow_via (by assumption) ?_)) <;> omega)
       clear HG
       have HG := HG2
       clear HG2
       clear c4 f4 c5 f5 c6 f6 c8 f8
       apply Grow.have_known (W := W)
       · rw [hW.out]; apply Known.at q4; (repeat (with_reducible first | exact q4 | apply Known.same | apply Known.other | apply Known.alloc | apply Known.drewN)) <;> omega
       clear q4
       intro q4
       (try simp only [List.setIfInBounds_toArray, List.set_cons_zero, List.set_cons_succ] at q4)
       apply Grow.have_known (W := W)
       · rw [hW.out]; apply Known.at q5; (repeat (with_reducible first | exact q5 | apply Known.same | apply Known.other | apply Known.alloc | apply Known.drewN)) <;> omega
       clear q5
       intro q5
       (try simp only [List.setIfInBounds_toArray, List.set_cons_zero, List.set_cons_succ] at q5)
       apply Grow.have_known (W := W)
       · rw [hW.out]; apply Known.at q6; (repeat (with_reducible first | exact q6 | apply Known.same | apply Known.other | apply Known.alloc | apply Known.drewN)) <;> omega
       clear q6
       intro q6
       (try simp only [List.setIfInBounds_toArray, List.set_cons_zero, List.set_cons_succ] at q6)
       apply Grow.have_known (W := W)
       · rw [hW.out]; apply Known.at q8; (repeat (with_reducible first | exact q8 | apply Known.same | apply Known.other | apply Known.alloc | apply Known.drewN)) <;> omega
       clear q8
       intro q8
       (try simp only [List.setIfInBounds_toArray, List.set_cons_zero, List.set_cons_succ] at q8)
       replace HZ : w.heap.size ≤ W.heap.size := Below.size HG.out
       clear hW
       refine (lengthOf_walk _ _ _ _).mono ?_
       rintro e w1 hp
       obtain ⟨v, rfl, hp, hB⟩ := hp
       obtain ⟨b, rfl, hb⟩ := hp
       have H := Lib.hid hb; clear hb
       replace q4 := q4.below hB
       replace q5 := q5.below hB
       replace q6 := q6.below hB
       replace q8 := q8.below hB
       replace HG : Hid (Below w.heap.size w w1) := Lib.hid (Grow.grow_trans HG.out hB)
       replace HZ : w.heap.size ≤ w1.heap.size := Below.size HG.out
       clear hB
       have c4 := q4.cell; have f4 := q4.frozen; have l4 := q4.lt
       have c5 := q5.cell; have f5 := q5.frozen; have l5 := q5.lt
       have c6 := q6.cell; have f6 := q6.frozen; have l6 := q6.lt
       have c8 := q8.cell; have f8 := q8.frozen; have l8 := q8.lt
       have s3 := trivial)
    | (clear s3
       go_at_call 68
       refine Grow.seal_calls ?_
       intro W hW
       have HG2 : Hid (Below w.heap.size w W) := Lib.hid (by rw [hW.out]; (repeat (with_reducible first | exact Grow.grow_refl _ | refine Grow.grow_setCell ?_ ?_ _ | refine Grow.grow_alloc ?_ _ | refine Grow.grow_drewN ?_ _ | refine Grow.grow_over ?_ _ | refine Grow.grow_via (by assumption) ?_)) <;> omega)
       clear HG
       have HG := HG2
       clear HG2
       clear c4 f4 c5 f5 c6 f6 c8 f8
       apply Grow.have_known (W := W)
       · rw [hW.out]; apply Known.at q4; (repeat (with_reducible first | exact q4 | apply Known.same | apply Known.other | apply Known.alloc | apply Known.drewN)) <;> omega
       clear q4
       intro q4
       (try simp only [List.setIfInBounds_toArray, List.set_cons_zero, List.set_cons_succ] at q4)
       apply Grow.have_known (W := W)
       · rw [hW.out]; apply Known.at q5; (repeat (with_reducible first | exact q5 | apply Known.same | apply Known.other | apply Known.alloc | apply Known.drewN)) <;> omega
       clear q5
       intro q5
       (try simp only [List.setIfInBounds_toArray, List.set_cons_zero, List.set_cons_succ] at q5)
       apply Grow.have_known (W := W)
       · rw [hW.out]; apply Known.at q6; (repeat (with_reducible first | exact q6 | apply Known.same | apply Known.other | apply Known.alloc | apply Known.drewN)) <;> omega
       clear q6
       intro q6
       (try simp only [List.setIfInBounds_toArray, List.set_cons_zero, List.set_cons_succ] at q6)
       apply Grow.have_known (W := W)
       · rw [hW.out]; apply Known.at q8; (repeat (with_reducible first | exact q8 | apply Known.same | apply Known.other | apply Known.alloc | apply Known.drewN)) <;> omega
       clear q8
       intro q8
       (try simp only [List.setIfInBounds_toArray, List.set_cons_zero, List.set_cons_succ] at q8)
       replace HZ : w.heap.size ≤ W.heap.size := Below.size HG.out
       clear hW
       refine (crossOf_walk _ _ _ _ _ _ _).mono ?_
       rintro e w1 hp
       obtain ⟨v, rfl, hp, hB⟩ := hp
       obtain ⟨b1, b2, b3, rfl, g1, g2, g3⟩ := hp
       have G := Lib.hid (v3_eq g1 g2 g3); clear g1 g2 g3
       replace q4 := q4.below hB
       replace q5 := q5.below hB
       replace q6 := q6.below hB
       replace q8 := q8.below hB
       replace HG : Hid (Below w.heap.size w w1) := Lib.hid (Grow.grow_trans HG.out hB)
       replace HZ : w.heap.size ≤ w1.heap.size := Below.size HG.out
       clear hB
       have c4 := q4.cell; have f4 := q4.frozen; have l4 := q4.lt
       have c5 := q5.cell; have f5 := q5.frozen; have l5 := q5.lt
       have c6 := q6.cell; have f6 := q6.frozen; have l6 := q6.lt
       have c8 := q8.cell; have f8 := q8.frozen; have l8 := q8.lt
       have s4 := trivial)
    | (clear s4
       go_at_call 68
       refine Grow.seal_calls ?_
       intro W hW
       have HG2 : Hid (Below w.heap.size w W) := Lib.hid (by rw [hW.out]; (repeat (with_reducible first | exact Grow.grow_refl _ | refine Grow.grow_setCell ?_ ?_ _ | refine Grow.grow_alloc ?_ _ | refine Grow.grow_drewN ?_ _ | refine Grow.grow_over ?_ _ | refine Grow.grow_via (by assumption) ?_)) <;> omega)
       clear HG
       have HG := HG2
       clear HG2
       clear c4 f4 c5 f5 c6 f6 c8 f8
       apply Grow.have_known (W := W)
       · rw [hW.out]; apply Known.at q4; (repeat (with_reducible first | exact q4 | apply Known.same | apply Known.other | apply Known.alloc | apply Known.drewN)) <;> omega
       clear q4
       intro q4
       (try simp only [List.setIfInBounds_toArray, List.set_cons_zero, List.set_cons_succ] at q4)
       apply Grow.have_known (W := W)
       · rw [hW.out]; apply Known.at q5; (repeat (with_reducible first | exact q5 | apply Known.same | apply Known.other | apply Known.alloc | apply Known.drewN)) <;> omega
       clear q5
       intro q5
       (try simp only [List.setIfInBounds_toArray, List.set_cons_zero, List.set_cons_succ] at q5)
       apply Grow.have_known (W := W)
       · rw [hW.out]; apply Known.at q6; (repeat (with_reducible first | exact q6 | apply Known.same | apply Known.other | apply Known.alloc | apply Known.drewN)) <;> omega
       clear q6
       intro q6
       (try simp only [List.setIfInBounds_toArray, List.set_cons_zero, List.set_cons_succ] at q6)
       apply Grow.have_known (W := W)
       · rw [hW.out]; apply Known.at q8; (repeat (with_reducible first | exact q8 | apply Known.same | apply Known.other | apply Known.alloc | apply Known.drewN)) <;> omega
       clear q8
       intro q8
       (try simp only [List.setIfInBounds_toArray, List.set_cons_zero, List.set_cons_succ] at q8)
       apply Grow.have_known (W := W) (b := w1.heap.size)
       · rw [hW.out]; (repeat (with_reducible first | exact Known.new _ _ _ | apply Known.same | apply Known.other | apply Known.alloc | apply Known.drewN)) <;> omega
       intro q13
       (try simp only [List.setIfInBounds_toArray, List.set_cons_zero, List.set_cons_succ] at q13)
       have m13 := q13.ge (n := w.heap.size) (by omega)
       replace HZ : w.heap.size ≤ W.heap.size := Below.size HG.out
       clear hW
       refine (crossOf_walk _ _ _ _ _ _ _).mono ?_
       rintro e w1 hp
       obtain ⟨v, rfl, hp, hB⟩ := hp
       obtain ⟨b1, b2, b3, rfl, g1, g2, g3⟩ := hp
       have G := Lib.hid (v3_eq g1 g2 g3); clear g1 g2 g3
       replace q4 := q4.below hB
       replace q5 := q5.below hB
       replace q6 := q6.below hB
       replace q8 := q8.below hB
       replace q13 := q13.below hB
       replace HG : Hid (Below w.heap.size w w1) := Lib.hid (Grow.grow_trans HG.out hB)
       replace HZ : w.heap.size ≤ w1.heap.size := Below.size HG.out
       clear hB
       have c4 := q4.cell; have f4 := q4.frozen; have l4 := q4.lt
       have c5 := q5.cell; have f5 := q5.frozen; have l5 := q5.lt
       have c6 := q6.cell; have f6 := q6.frozen; have l6 := q6.lt
       have c8 := q8.cell; have f8 := q8.frozen; have l8 := q8.lt
       have c13 := q13.cell; have f13 := q13.frozen; have l13 := q13.lt
       have s5 := trivial)
    | (clear s5
       go_at_call 68
       refine Grow.seal_calls ?_
       intro W hW
       have HG2 : Hid (Below w.heap.size w W) := Lib.hid (by rw [hW.out]; (repeat (with_reducible first | exact Grow.grow_refl _ | refine Grow.grow_setCell ?_ ?_ _ | refine Grow.grow_alloc ?_ _ | refine Grow.grow_drewN ?_ _ | refine Grow.grow_over ?_ _ | refine Grow.grow_via (by assumption) ?_)) <;> omega)
       clear HG
       have HG := HG2
       clear HG2
       clear c4 f4 c5 f5 c6 f6 c8 f8 c13 f13
       apply Grow.have_known (W := W)
       · rw [hW.out]; apply Known.at q4; (repeat (with_reducible first | exact q4 | apply Known.same | apply Known.other | apply Known.alloc | apply Known.drewN)) <;> omega
       clear q4
       intro q4
       (try simp only [List.setIfInBounds_toArray, List.set_cons_zero, List.set_cons_succ] at q4)
       apply Grow.have_known (W := W)
       · rw [hW.out]; apply Known.at q5; (repeat (with_reducible first | exact q5 | apply Known.same | apply Known.other | apply Known.alloc | apply Known.drewN)) <;> omega
       clear q5
       intro q5
       (try simp only [List.setIfInBounds_toArray, List.set_cons_zero, List.set_cons_succ] at q5)
       apply Grow.have_known (W := W)
       · rw [hW.out]; apply Known.at q6; (repeat (with_reducible first | exact q6 | apply Known.same | apply Known.other | apply Known.alloc | apply Known.drewN)) <;> omega
       clear q6
       intro q6
       (try simp only [List.setIfInBounds_toArray, List.set_cons_zero, List.set_cons_succ] at q6)
       apply Grow.have_known (W := W)
       · rw [hW.out]; apply Known.at q8; (repeat (with_reducible first | exact q8 | apply Known.same | apply Known.other | apply Known.alloc | apply Known.drewN)) <;> omega
       clear q8
       intro q8
       (try simp only [List.setIfInBounds_toArray, List.set_cons_zero, List.set_cons_succ] at q8)
       apply Grow.have_known (W := W)
       · rw [hW.out]; apply Known.at q13; (repeat (with_reducible first | exact q13 | apply Known.same | apply Known.other | apply Known.alloc | apply Known.drewN)) <;> omega
       clear q13
       intro q13
       (try simp only [List.setIfInBounds_toArray, List.set_cons_zero, List.set_cons_succ] at q13)
       apply Grow.have_known (W := W) (b := w1.heap.size)
       · rw [hW.out]; (repeat (with_reducible first | exact Known.new _ _ _ | apply Known.same | apply Known.other | apply Known.alloc | apply Known.drewN)) <;> omega
       intro q14
       (try simp only [List.setIfInBounds_toArray, List.set_cons_zero, List.set_cons_succ] at q14)
       have m14 := q14.ge (n := w.heap.size) (by omega)
       replace HZ : w.heap.size ≤ W.heap.size := Below.size HG.out
       clear hW
       refine (crossOf_walk _ _ _ _ _ _ _).mono ?_
       rintro e w1 hp
       obtain ⟨v, rfl, hp, hB⟩ := hp
       obtain ⟨b1, b2, b3, rfl, g1, g2, g3⟩ := hp
       have G := Lib.hid (v3_eq g1 g2 g3); clear g1 g2 g3
       replace q4 := q4.below hB
       replace q5 := q5.below hB
       replace q6 := q6.below hB
       replace q8 := q8.below hB
       replace q13 := q13.below hB
       replace q14 := q14.below hB
       replace HG : Hid (Below w.heap.size w w1) := Lib.hid (Grow.grow_trans HG.out hB)
       replace HZ : w.heap.size ≤ w1.heap.size := Below.size HG.out
       clear hB
       have c4 := q4.cell; have f4 := q4.frozen; have l4 := q4.lt
       have c5 := q5.cell; have f5 := q5.frozen; have l5 := q5.lt
       have c6 := q6.cell; have f6 := q6.frozen; have l6 := q6.lt
       have c8 := q8.cell; have f8 := q8.frozen; have l8 := q8.lt
       have c13 := q13.cell; have f13 := q13.frozen; have l13 := q13.lt
       have c14 := q14.cell; have f14 := q14.frozen; have l14 := q14.lt
       have s6 := trivial))
  refine Grow.seal_wp ?_
  intro W hW
  have HG2 : Hid (Below w.heap.size w W) := Lib.hid (by rw [hW.out]; (repeat (with_reducible first | exact Grow.grow_refl _ | refine Grow.grow_setCell ?_ ?_ _ | refine Grow.grow_alloc ?_ _ | refine Grow.grow_drewN ?_ _ | refine Grow.grow_over ?_ _ | refine Grow.grow_via (by assumption) ?_)) <;> omega)
  clear HG
  have HG := HG2
  clear HG2
  clear c4 f4 c5 f5 c6 f6 c8 f8 c13 f13 c14 f14
  apply Grow.have_known (W := W)
  · rw [hW.out]; apply Known.at q4; (repeat (with_reducible first | exact q4 | apply Known.same | apply Known.other | apply Known.alloc | apply Known.drewN)) <;> omega
  clear q4
  intro q4
  (try simp only [List.setIfInBounds_toArray, List.set_cons_zero, List.set_cons_succ] at q4)
  apply Grow.have_known (W := W)
  · rw [hW.out]; apply Known.at q5; (repeat (with_reducible first | exact q5 | apply Known.same | apply Known.other | apply Known.alloc | apply Known.drewN)) <;> omega
  clear q5
  intro q5
  (try simp only [List.setIfInBounds_toArray, List.set_cons_zero, List.set_cons_succ] at q5)
  apply Grow.have_known (W := W)
  · rw [hW.out]; apply Known.at q6; (repeat (with_reducible first | exact q6 | apply Known.same | apply Known.other | apply Known.alloc | apply Known.drewN)) <;> omega
  clear q6
  intro q6
  (try simp only [List.setIfInBounds_toArray, List.set_cons_zero, List.set_cons_succ] at q6)
  apply Grow.have_known (W := W)
  · rw [hW.out]; apply Known.at q8; (repeat (with_reducible first | exact q8 | apply Known.same | apply Known.other | apply Known.alloc | apply Known.drewN)) <;> omega
  clear q8
  intro q8
  (try simp only [List.setIfInBounds_toArray, List.set_cons_zero, List.set_cons_succ] at q8)
  apply Grow.have_known (W := W)
  · rw [hW.out]; apply Known.at q13; (repeat (with_reducible first | exact q13 | apply Known.same | apply Known.other | apply Known.alloc | apply Known.drewN)) <;> omega
  clear q13
  intro q13
  (try simp only [List.setIfInBounds_toArray, List.set_cons_zero, List.set_cons_succ] at q13)
  apply Grow.have_known (W := W)
  · rw [hW.out]; apply Known.at q14; (repeat (with_reducible first | exact q14 | apply Known.same | apply Known.other | apply Known.alloc | apply Known.drewN)) <;> omega
  clear q14
  intro q14
  (try simp only [List.setIfInBounds_toArray, List.set_cons_zero, List.set_cons_succ] at q14)
  apply Grow.have_known (W := W) (b := w1.heap.size)
  · rw [hW.out]; (repeat (with_reducible first | exact Known.new _ _ _ | apply Known.same | apply Known.other | apply Known.alloc | apply Known.drewN)) <;> omega
  intro q15
  (try simp only [List.setIfInBounds_toArray, List.set_cons_zero, List.set_cons_succ] at q15)
  have m15 := q15.ge (n := w.heap.size) (by omega)
  replace HZ : w.heap.size ≤ W.heap.size := Below.size HG.out
  clear hW
  have c4 := q4.cell; have f4 := q4.frozen; have l4 := q4.lt
  have c5 := q5.cell; have f5 := q5.frozen; have l5 := q5.lt
  have c6 := q6.cell; have f6 := q6.frozen; have l6 := q6.lt
  have c8 := q8.cell; have f8 := q8.frozen; have l8 := q8.lt
  have c13 := q13.cell; have f13 := q13.frozen; have l13 := q13.lt
  have c14 := q14.cell; have f14 := q14.frozen; have l14 := q14.lt
  have c15 := q15.cell; have f15 := q15.frozen; have l15 := q15.lt
  refine Rel.wp_region_rel_tail SpecG 8 (by kernel_rfl) (lexTailB_of_fast (by kernel_rfl) (by kernel_rfl) (by kernel_rfl)) ?_
  simp only [List.append_eq, List.cons_append, List.nil_append, List.take_succ_cons, List.take_zero, List.drop_succ_cons, List.drop_zero]
  repeat (first
    | (refine rel_arith (by rfl) rfl (by rfl) rfl rfl ?_; intro b1 H1; simp only [Act.put, List.setIfInBounds_toArray, List.set_cons_zero, List.set_cons_succ])
    | (refine rel_call (f := 70) (args := #[.float .f64 _, .agg #[.float .f64 _, .float .f64 _, .float .f64 _]]) (by rfl) rfl (callAt_func rfl Try.func70 (by kernel_rfl) (by kernel_rfl) rfl) (keeps_over (fun v h => h) fun x => scaled_walk _ _ _ _ _) ?_; rintro _ ⟨b1, b2, b3, rfl, g1, g2, g3⟩; have G := Lib.hid (v3_eq g1 g2 g3); clear g1 g2 g3; simp only [Act.put, List.setIfInBounds_toArray, List.set_cons_zero, List.set_cons_succ])
    | (refine rel_call (f := 69) (args := #[.agg #[.float .f64 _, .float .f64 _, .float .f64 _], .agg #[.float .f64 _, .float .f64 _, .float .f64 _]]) (by rfl) rfl (callAt_func rfl Try.func69 (by kernel_rfl) (by kernel_rfl) rfl) (keeps_over (fun v h => h) fun x => both_walk _ _ _ _ _ _ _) ?_; rintro _ ⟨b1, b2, b3, rfl, g1, g2, g3⟩; have G := Lib.hid (v3_eq g1 g2 g3); clear g1 g2 g3; simp only [Act.put, List.setIfInBounds_toArray, List.set_cons_zero, List.set_cons_succ])
    | (refine rel_alloc (by rfl) rfl alloc41 ?_; intro k hk; have hk1 := hk.1; have hk2 := hk.2; clear hk; (try simp only [World.size_alloc, World.size_setCell, World.heap_drewN] at hk1); (try simp only [List.forall_mem_cons] at hk2); (try obtain ⟨hk2, hk3⟩ := hk2); (try obtain ⟨hk3, hk4⟩ := hk3); (try obtain ⟨hk4, hk5⟩ := hk4); simp only [Act.put, List.setIfInBounds_toArray, List.set_cons_zero, List.set_cons_succ])
    | (refine rel_plain (by rfl) rfl ?_; intro K hK; go_big_quiet_op; go_big_quiet_on)
    | (refine rel_skip (by rfl) ?_; simp only [Act.put, List.setIfInBounds_toArray, List.set_cons_zero, List.set_cons_succ]))
  refine Rel.wpRel_nil ?_
  intro w9 hB9 hG9
  clear c4 f4 c5 f5 c6 f6 c8 f8 c13 f13 c14 f14 c15 f15
  replace q4 := q4.below hB9
  replace q5 := q5.below hB9
  replace q6 := q6.below hB9
  replace q8 := q8.below hB9
  replace q13 := q13.below hB9
  replace q14 := q14.below hB9
  replace q15 := q15.below hB9
  simp only [Rel.holds, List.forall_mem_cons] at hG9
  obtain ⟨hx0, -⟩ := hG9
  have q16 := Known.held hx0
  clear hx0
  have m16 := q16.ge (n := w.heap.size) (by omega)
  replace HG : Hid (Below w.heap.size w w9) := Lib.hid (Grow.grow_trans HG.out hB9)
  replace HZ : w.heap.size ≤ w9.heap.size := Below.size HG.out
  clear hB9
  have c4 := q4.cell
  have f4 := q4.frozen
  have l4 := q4.lt
  have c5 := q5.cell
  have f5 := q5.frozen
  have l5 := q5.lt
  have c6 := q6.cell
  have f6 := q6.frozen
  have l6 := q6.lt
  have c8 := q8.cell
  have f8 := q8.frozen
  have l8 := q8.lt
  have c13 := q13.cell
  have f13 := q13.frozen
  have l13 := q13.lt
  have c14 := q14.cell
  have f14 := q14.frozen
  have l14 := q14.lt
  have c15 := q15.cell
  have f15 := q15.frozen
  have l15 := q15.lt
  have c16 := q16.cell
  have f16 := q16.frozen
  have l16 := q16.lt
  go_wp2
  refine Grow.seal_wp ?_
  intro W hW
  have HG2 : Hid (Below w.heap.size w W) := Lib.hid (by
    rw [hW.out]
    (repeat (with_reducible first
      | exact Grow.grow_refl _
      | refine Grow.grow_setCell ?_ ?_ _
      | refine Grow.grow_alloc ?_ _
      | refine Grow.grow_drewN ?_ _
      | refine Grow.grow_over ?_ _
      | refine Grow.grow_via (by assumption) ?_)) <;> omega)
  clear HG
  have HG := HG2
  clear HG2
  replace HZ : w.heap.size ≤ W.heap.size := Below.size HG.out
  clear c4 f4 c5 f5 c6 f6 c8 f8 c13 f13 c14 f14 c15 f15 c16 f16
  apply Grow.have_known (W := W)
  · rw [hW.out]
    apply Known.at q4
    (repeat (with_reducible first | exact q4 | apply Known.same | apply Known.other)) <;> omega
  clear q4
  intro q4
  (try simp only [List.setIfInBounds_toArray, List.set_cons_zero, List.set_cons_succ] at q4)
  apply Grow.have_known (W := W)
  · rw [hW.out]
    apply Known.at q5
    (repeat (with_reducible first | exact q5 | apply Known.same | apply Known.other)) <;> omega
  clear q5
  intro q5
  (try simp only [List.setIfInBounds_toArray, List.set_cons_zero, List.set_cons_succ] at q5)
  apply Grow.have_known (W := W)
  · rw [hW.out]
    apply Known.at q6
    (repeat (with_reducible first | exact q6 | apply Known.same | apply Known.other)) <;> omega
  clear q6
  intro q6
  (try simp only [List.setIfInBounds_toArray, List.set_cons_zero, List.set_cons_succ] at q6)
  apply Grow.have_known (W := W)
  · rw [hW.out]
    apply Known.at q8
    (repeat (with_reducible first | exact q8 | apply Known.same | apply Known.other)) <;> omega
  clear q8
  intro q8
  (try simp only [List.setIfInBounds_toArray, List.set_cons_zero, List.set_cons_succ] at q8)
  apply Grow.have_known (W := W)
  · rw [hW.out]
    apply Known.at q13
    (repeat (with_reducible first | exact q13 | apply Known.same | apply Known.other)) <;> omega
  clear q13
  intro q13
  (try simp only [List.setIfInBounds_toArray, List.set_cons_zero, List.set_cons_succ] at q13)
  apply Grow.have_known (W := W)
  · rw [hW.out]
    apply Known.at q14
    (repeat (with_reducible first | exact q14 | apply Known.same | apply Known.other)) <;> omega
  clear q14
  intro q14
  (try simp only [List.setIfInBounds_toArray, List.set_cons_zero, List.set_cons_succ] at q14)
  apply Grow.have_known (W := W)
  · rw [hW.out]
    apply Known.at q15
    (repeat (with_reducible first | exact q15 | apply Known.same | apply Known.other)) <;> omega
  clear q15
  intro q15
  (try simp only [List.setIfInBounds_toArray, List.set_cons_zero, List.set_cons_succ] at q15)
  apply Grow.have_known (W := W)
  · rw [hW.out]
    apply Known.at q16
    (repeat (with_reducible first | exact q16 | apply Known.same | apply Known.other)) <;> omega
  clear q16
  intro q16
  (try simp only [List.setIfInBounds_toArray, List.set_cons_zero, List.set_cons_succ] at q16)
  clear hW
  have c4 := q4.cell
  have f4 := q4.frozen
  have l4 := q4.lt
  have c5 := q5.cell
  have f5 := q5.frozen
  have l5 := q5.lt
  have c6 := q6.cell
  have f6 := q6.frozen
  have l6 := q6.lt
  have c8 := q8.cell
  have f8 := q8.frozen
  have l8 := q8.lt
  have c13 := q13.cell
  have f13 := q13.frozen
  have l13 := q13.lt
  have c14 := q14.cell
  have f14 := q14.frozen
  have l14 := q14.lt
  have c15 := q15.cell
  have f15 := q15.frozen
  have l15 := q15.lt
  have c16 := q16.cell
  have f16 := q16.frozen
  have l16 := q16.lt
  refine Rel.wp_region_rel_tail SpecG 5 (by kernel_rfl) (lexTailB_of_fast (by kernel_rfl) (by kernel_rfl) (by kernel_rfl)) ?_
  simp only [List.append_eq, List.cons_append, List.nil_append, List.take_succ_cons, List.take_zero, List.drop_succ_cons, List.drop_zero]
  repeat (first
    | (refine rel_arith (by rfl) rfl (by rfl) rfl rfl ?_; intro b1 H1; simp only [Act.put, List.setIfInBounds_toArray, List.set_cons_zero, List.set_cons_succ])
    | (refine rel_call (f := 70) (args := #[.float .f64 _, .agg #[.float .f64 _, .float .f64 _, .float .f64 _]]) (by rfl) rfl (callAt_func rfl Try.func70 (by kernel_rfl) (by kernel_rfl) rfl) (keeps_over (fun v h => h) fun x => scaled_walk _ _ _ _ _) ?_; rintro _ ⟨b1, b2, b3, rfl, g1, g2, g3⟩; have G := Lib.hid (v3_eq g1 g2 g3); clear g1 g2 g3; simp only [Act.put, List.setIfInBounds_toArray, List.set_cons_zero, List.set_cons_succ])
    | (refine rel_call (f := 69) (args := #[.agg #[.float .f64 _, .float .f64 _, .float .f64 _], .agg #[.float .f64 _, .float .f64 _, .float .f64 _]]) (by rfl) rfl (callAt_func rfl Try.func69 (by kernel_rfl) (by kernel_rfl) rfl) (keeps_over (fun v h => h) fun x => both_walk _ _ _ _ _ _ _) ?_; rintro _ ⟨b1, b2, b3, rfl, g1, g2, g3⟩; have G := Lib.hid (v3_eq g1 g2 g3); clear g1 g2 g3; simp only [Act.put, List.setIfInBounds_toArray, List.set_cons_zero, List.set_cons_succ])
    | (refine rel_plain (by rfl) rfl ?_; intro K hK; go_big_quiet_op; go_big_quiet_on)
    | (refine rel_skip (by rfl) ?_; simp only [Act.put, List.setIfInBounds_toArray, List.set_cons_zero, List.set_cons_succ]))
  refine Rel.wpRel_nil ?_
  intro w9 hB9 hG9
  clear c4 f4 c5 f5 c6 f6 c8 f8 c13 f13 c14 f14 c15 f15 c16 f16
  replace q4 := q4.below hB9
  replace q5 := q5.below hB9
  replace q6 := q6.below hB9
  replace q8 := q8.below hB9
  replace q13 := q13.below hB9
  replace q14 := q14.below hB9
  replace q15 := q15.below hB9
  replace q16 := q16.below hB9
  clear hG9
  replace HG : Hid (Below w.heap.size w w9) := Lib.hid (Grow.grow_trans HG.out hB9)
  replace HZ : w.heap.size ≤ w9.heap.size := Below.size HG.out
  clear hB9
  have c4 := q4.cell
  have f4 := q4.frozen
  have l4 := q4.lt
  have c5 := q5.cell
  have f5 := q5.frozen
  have l5 := q5.lt
  have c6 := q6.cell
  have f6 := q6.frozen
  have l6 := q6.lt
  have c8 := q8.cell
  have f8 := q8.frozen
  have l8 := q8.lt
  have c13 := q13.cell
  have f13 := q13.frozen
  have l13 := q13.lt
  have c14 := q14.cell
  have f14 := q14.frozen
  have l14 := q14.lt
  have c15 := q15.cell
  have f15 := q15.frozen
  have l15 := q15.lt
  have c16 := q16.cell
  have f16 := q16.frozen
  have l16 := q16.lt
  go_wp2
  refine Grow.seal_wp ?_
  intro W hW
  have HG2 : Hid (Below w.heap.size w W) := Lib.hid (by
    rw [hW.out]
    (repeat (with_reducible first
      | exact Grow.grow_refl _
      | refine Grow.grow_setCell ?_ ?_ _
      | refine Grow.grow_alloc ?_ _
      | refine Grow.grow_drewN ?_ _
      | refine Grow.grow_over ?_ _
      | refine Grow.grow_via (by assumption) ?_)) <;> omega)
  clear HG
  have HG := HG2
  clear HG2
  replace HZ : w.heap.size ≤ W.heap.size := Below.size HG.out
  clear c4 f4 c5 f5 c6 f6 c8 f8 c13 f13 c14 f14 c15 f15 c16 f16
  apply Grow.have_known (W := W)
  · rw [hW.out]
    apply Known.at q4
    (repeat (with_reducible first | exact q4 | apply Known.same | apply Known.other)) <;> omega
  clear q4
  intro q4
  (try simp only [List.setIfInBounds_toArray, List.set_cons_zero, List.set_cons_succ] at q4)
  apply Grow.have_known (W := W)
  · rw [hW.out]
    apply Known.at q5
    (repeat (with_reducible first | exact q5 | apply Known.same | apply Known.other)) <;> omega
  clear q5
  intro q5
  (try simp only [List.setIfInBounds_toArray, List.set_cons_zero, List.set_cons_succ] at q5)
  apply Grow.have_known (W := W)
  · rw [hW.out]
    apply Known.at q6
    (repeat (with_reducible first | exact q6 | apply Known.same | apply Known.other)) <;> omega
  clear q6
  intro q6
  (try simp only [List.setIfInBounds_toArray, List.set_cons_zero, List.set_cons_succ] at q6)
  apply Grow.have_known (W := W)
  · rw [hW.out]
    apply Known.at q8
    (repeat (with_reducible first | exact q8 | apply Known.same | apply Known.other)) <;> omega
  clear q8
  intro q8
  (try simp only [List.setIfInBounds_toArray, List.set_cons_zero, List.set_cons_succ] at q8)
  apply Grow.have_known (W := W)
  · rw [hW.out]
    apply Known.at q13
    (repeat (with_reducible first | exact q13 | apply Known.same | apply Known.other)) <;> omega
  clear q13
  intro q13
  (try simp only [List.setIfInBounds_toArray, List.set_cons_zero, List.set_cons_succ] at q13)
  apply Grow.have_known (W := W)
  · rw [hW.out]
    apply Known.at q14
    (repeat (with_reducible first | exact q14 | apply Known.same | apply Known.other)) <;> omega
  clear q14
  intro q14
  (try simp only [List.setIfInBounds_toArray, List.set_cons_zero, List.set_cons_succ] at q14)
  apply Grow.have_known (W := W)
  · rw [hW.out]
    apply Known.at q15
    (repeat (with_reducible first | exact q15 | apply Known.same | apply Known.other)) <;> omega
  clear q15
  intro q15
  (try simp only [List.setIfInBounds_toArray, List.set_cons_zero, List.set_cons_succ] at q15)
  apply Grow.have_known (W := W)
  · rw [hW.out]
    apply Known.at q16
    (repeat (with_reducible first | exact q16 | apply Known.same | apply Known.other)) <;> omega
  clear q16
  intro q16
  (try simp only [List.setIfInBounds_toArray, List.set_cons_zero, List.set_cons_succ] at q16)
  clear hW
  have c4 := q4.cell
  have f4 := q4.frozen
  have l4 := q4.lt
  have c5 := q5.cell
  have f5 := q5.frozen
  have l5 := q5.lt
  have c6 := q6.cell
  have f6 := q6.frozen
  have l6 := q6.lt
  have c8 := q8.cell
  have f8 := q8.frozen
  have l8 := q8.lt
  have c13 := q13.cell
  have f13 := q13.frozen
  have l13 := q13.lt
  have c14 := q14.cell
  have f14 := q14.frozen
  have l14 := q14.lt
  have c15 := q15.cell
  have f15 := q15.frozen
  have l15 := q15.lt
  have c16 := q16.cell
  have f16 := q16.frozen
  have l16 := q16.lt
  refine Rel.wp_region_rel_tail SpecG 6 (by kernel_rfl) (lexTailB_of_fast (by kernel_rfl) (by kernel_rfl) (by kernel_rfl)) ?_
  simp only [List.append_eq, List.cons_append, List.nil_append, List.take_succ_cons, List.take_zero, List.drop_succ_cons, List.drop_zero]
  repeat (first
    | (refine rel_arith (by rfl) rfl (by rfl) rfl rfl ?_; intro b1 H1; simp only [Act.put, List.setIfInBounds_toArray, List.set_cons_zero, List.set_cons_succ])
    | (refine rel_call (f := 69) (args := #[.agg #[.float .f64 _, .float .f64 _, .float .f64 _], .agg #[.float .f64 _, .float .f64 _, .float .f64 _]]) (by rfl) rfl (callAt_func rfl Try.func69 (by kernel_rfl) (by kernel_rfl) rfl) (keeps_over (fun v h => h) fun x => both_walk _ _ _ _ _ _ _) ?_; rintro _ ⟨b1, b2, b3, rfl, g1, g2, g3⟩; have G := Lib.hid (v3_eq g1 g2 g3); clear g1 g2 g3; simp only [Act.put, List.setIfInBounds_toArray, List.set_cons_zero, List.set_cons_succ])
    | (refine rel_alloc (by rfl) rfl alloc41 ?_; intro k hk; have hk1 := hk.1; have hk2 := hk.2; clear hk; (try simp only [World.size_alloc, World.size_setCell, World.heap_drewN] at hk1); (try simp only [List.forall_mem_cons] at hk2); (try obtain ⟨hk2, hk3⟩ := hk2); (try obtain ⟨hk3, hk4⟩ := hk3); (try obtain ⟨hk4, hk5⟩ := hk4); simp only [Act.put, List.setIfInBounds_toArray, List.set_cons_zero, List.set_cons_succ])
    | (refine rel_plain (by rfl) rfl ?_; intro K hK; go_big_quiet_op; go_big_quiet_on)
    | (refine rel_skip (by rfl) ?_; simp only [Act.put, List.setIfInBounds_toArray, List.set_cons_zero, List.set_cons_succ]))
  refine Rel.wpRel_nil ?_
  intro w9 hB9 hG9
  clear c4 f4 c5 f5 c6 f6 c8 f8 c13 f13 c14 f14 c15 f15 c16 f16
  replace q4 := q4.below hB9
  replace q5 := q5.below hB9
  replace q6 := q6.below hB9
  replace q8 := q8.below hB9
  replace q13 := q13.below hB9
  replace q14 := q14.below hB9
  replace q15 := q15.below hB9
  replace q16 := q16.below hB9
  simp only [Rel.holds, List.forall_mem_cons] at hG9
  obtain ⟨hx0, -⟩ := hG9
  have q17 := Known.held hx0
  clear hx0
  have m17 := q17.ge (n := w.heap.size) (by omega)
  replace HG : Hid (Below w.heap.size w w9) := Lib.hid (Grow.grow_trans HG.out hB9)
  replace HZ : w.heap.size ≤ w9.heap.size := Below.size HG.out
  clear hB9
  have c4 := q4.cell
  have f4 := q4.frozen
  have l4 := q4.lt
  have c5 := q5.cell
  have f5 := q5.frozen
  have l5 := q5.lt
  have c6 := q6.cell
  have f6 := q6.frozen
  have l6 := q6.lt
  have c8 := q8.cell
  have f8 := q8.frozen
  have l8 := q8.lt
  have c13 := q13.cell
  have f13 := q13.frozen
  have l13 := q13.lt
  have c14 := q14.cell
  have f14 := q14.frozen
  have l14 := q14.lt
  have c15 := q15.cell
  have f15 := q15.frozen
  have l15 := q15.lt
  have c16 := q16.cell
  have f16 := q16.frozen
  have l16 := q16.lt
  have c17 := q17.cell
  have f17 := q17.frozen
  have l17 := q17.lt
  go_wp2
  refine Grow.seal_wp ?_
  intro W hW
  have HG2 : Hid (Below w.heap.size w W) := Lib.hid (by
    rw [hW.out]
    (repeat (with_reducible first
      | exact Grow.grow_refl _
      | refine Grow.grow_setCell ?_ ?_ _
      | refine Grow.grow_alloc ?_ _
      | refine Grow.grow_drewN ?_ _
      | refine Grow.grow_over ?_ _
      | refine Grow.grow_via (by assumption) ?_)) <;> omega)
  clear HG
  have HG := HG2
  clear HG2
  replace HZ : w.heap.size ≤ W.heap.size := Below.size HG.out
  clear c4 f4 c5 f5 c6 f6 c8 f8 c13 f13 c14 f14 c15 f15 c16 f16 c17 f17
  apply Grow.have_known (W := W)
  · rw [hW.out]
    apply Known.at q4
    (repeat (with_reducible first | exact q4 | apply Known.same | apply Known.other)) <;> omega
  clear q4
  intro q4
  (try simp only [List.setIfInBounds_toArray, List.set_cons_zero, List.set_cons_succ] at q4)
  apply Grow.have_known (W := W)
  · rw [hW.out]
    apply Known.at q5
    (repeat (with_reducible first | exact q5 | apply Known.same | apply Known.other)) <;> omega
  clear q5
  intro q5
  (try simp only [List.setIfInBounds_toArray, List.set_cons_zero, List.set_cons_succ] at q5)
  apply Grow.have_known (W := W)
  · rw [hW.out]
    apply Known.at q6
    (repeat (with_reducible first | exact q6 | apply Known.same | apply Known.other)) <;> omega
  clear q6
  intro q6
  (try simp only [List.setIfInBounds_toArray, List.set_cons_zero, List.set_cons_succ] at q6)
  apply Grow.have_known (W := W)
  · rw [hW.out]
    apply Known.at q8
    (repeat (with_reducible first | exact q8 | apply Known.same | apply Known.other)) <;> omega
  clear q8
  intro q8
  (try simp only [List.setIfInBounds_toArray, List.set_cons_zero, List.set_cons_succ] at q8)
  apply Grow.have_known (W := W)
  · rw [hW.out]
    apply Known.at q13
    (repeat (with_reducible first | exact q13 | apply Known.same | apply Known.other)) <;> omega
  clear q13
  intro q13
  (try simp only [List.setIfInBounds_toArray, List.set_cons_zero, List.set_cons_succ] at q13)
  apply Grow.have_known (W := W)
  · rw [hW.out]
    apply Known.at q14
    (repeat (with_reducible first | exact q14 | apply Known.same | apply Known.other)) <;> omega
  clear q14
  intro q14
  (try simp only [List.setIfInBounds_toArray, List.set_cons_zero, List.set_cons_succ] at q14)
  apply Grow.have_known (W := W)
  · rw [hW.out]
    apply Known.at q15
    (repeat (with_reducible first | exact q15 | apply Known.same | apply Known.other)) <;> omega
  clear q15
  intro q15
  (try simp only [List.setIfInBounds_toArray, List.set_cons_zero, List.set_cons_succ] at q15)
  apply Grow.have_known (W := W)
  · rw [hW.out]
    apply Known.at q16
    (repeat (with_reducible first | exact q16 | apply Known.same | apply Known.other)) <;> omega
  clear q16
  intro q16
  (try simp only [List.setIfInBounds_toArray, List.set_cons_zero, List.set_cons_succ] at q16)
  apply Grow.have_known (W := W)
  · rw [hW.out]
    apply Known.at q17
    (repeat (with_reducible first | exact q17 | apply Known.same | apply Known.other)) <;> omega
  clear q17
  intro q17
  (try simp only [List.setIfInBounds_toArray, List.set_cons_zero, List.set_cons_succ] at q17)
  clear hW
  have c4 := q4.cell
  have f4 := q4.frozen
  have l4 := q4.lt
  have c5 := q5.cell
  have f5 := q5.frozen
  have l5 := q5.lt
  have c6 := q6.cell
  have f6 := q6.frozen
  have l6 := q6.lt
  have c8 := q8.cell
  have f8 := q8.frozen
  have l8 := q8.lt
  have c13 := q13.cell
  have f13 := q13.frozen
  have l13 := q13.lt
  have c14 := q14.cell
  have f14 := q14.frozen
  have l14 := q14.lt
  have c15 := q15.cell
  have f15 := q15.frozen
  have l15 := q15.lt
  have c16 := q16.cell
  have f16 := q16.frozen
  have l16 := q16.lt
  have c17 := q17.cell
  have f17 := q17.frozen
  have l17 := q17.lt
  refine Rel.wp_region_rel_tail SpecG 12 (by kernel_rfl) (lexTailB_of_fast (by kernel_rfl) (by kernel_rfl) (by kernel_rfl)) ?_
  simp only [List.append_eq, List.cons_append, List.nil_append, List.take_succ_cons, List.take_zero, List.drop_succ_cons, List.drop_zero]
  repeat (first
    | (refine rel_arith (by rfl) rfl (by rfl) rfl rfl ?_; intro b1 H1; simp only [Act.put, List.setIfInBounds_toArray, List.set_cons_zero, List.set_cons_succ])
    | (refine rel_call (f := 70) (args := #[.float .f64 _, .agg #[.float .f64 _, .float .f64 _, .float .f64 _]]) (by rfl) rfl (callAt_func rfl Try.func70 (by kernel_rfl) (by kernel_rfl) rfl) (keeps_over (fun v h => h) fun x => scaled_walk _ _ _ _ _) ?_; rintro _ ⟨b1, b2, b3, rfl, g1, g2, g3⟩; have G := Lib.hid (v3_eq g1 g2 g3); clear g1 g2 g3; simp only [Act.put, List.setIfInBounds_toArray, List.set_cons_zero, List.set_cons_succ])
    | (refine rel_call (f := 69) (args := #[.agg #[.float .f64 _, .float .f64 _, .float .f64 _], .agg #[.float .f64 _, .float .f64 _, .float .f64 _]]) (by rfl) rfl (callAt_func rfl Try.func69 (by kernel_rfl) (by kernel_rfl) rfl) (keeps_over (fun v h => h) fun x => both_walk _ _ _ _ _ _ _) ?_; rintro _ ⟨b1, b2, b3, rfl, g1, g2, g3⟩; have G := Lib.hid (v3_eq g1 g2 g3); clear g1 g2 g3; simp only [Act.put, List.setIfInBounds_toArray, List.set_cons_zero, List.set_cons_succ])
    | (refine rel_alloc (by rfl) rfl alloc41 ?_; intro k hk; have hk1 := hk.1; have hk2 := hk.2; clear hk; (try simp only [World.size_alloc, World.size_setCell, World.heap_drewN] at hk1); (try simp only [List.forall_mem_cons] at hk2); (try obtain ⟨hk2, hk3⟩ := hk2); (try obtain ⟨hk3, hk4⟩ := hk3); (try obtain ⟨hk4, hk5⟩ := hk4); simp only [Act.put, List.setIfInBounds_toArray, List.set_cons_zero, List.set_cons_succ])
    | (refine rel_plain (by rfl) rfl ?_; intro K hK; go_big_quiet_op; go_big_quiet_on)
    | (refine rel_skip (by rfl) ?_; simp only [Act.put, List.setIfInBounds_toArray, List.set_cons_zero, List.set_cons_succ]))
  refine Rel.wpRel_nil ?_
  intro w9 hB9 hG9
  clear c4 f4 c5 f5 c6 f6 c8 f8 c13 f13 c14 f14 c15 f15 c16 f16 c17 f17
  replace q4 := q4.below hB9
  replace q5 := q5.below hB9
  replace q6 := q6.below hB9
  replace q8 := q8.below hB9
  replace q13 := q13.below hB9
  replace q14 := q14.below hB9
  replace q15 := q15.below hB9
  replace q16 := q16.below hB9
  replace q17 := q17.below hB9
  simp only [Rel.holds, List.forall_mem_cons] at hG9
  obtain ⟨hx0, -⟩ := hG9
  have q18 := Known.held hx0
  clear hx0
  have m18 := q18.ge (n := w.heap.size) (by omega)
  replace HG : Hid (Below w.heap.size w w9) := Lib.hid (Grow.grow_trans HG.out hB9)
  replace HZ : w.heap.size ≤ w9.heap.size := Below.size HG.out
  clear hB9
  have c4 := q4.cell
  have f4 := q4.frozen
  have l4 := q4.lt
  have c5 := q5.cell
  have f5 := q5.frozen
  have l5 := q5.lt
  have c6 := q6.cell
  have f6 := q6.frozen
  have l6 := q6.lt
  have c8 := q8.cell
  have f8 := q8.frozen
  have l8 := q8.lt
  have c13 := q13.cell
  have f13 := q13.frozen
  have l13 := q13.lt
  have c14 := q14.cell
  have f14 := q14.frozen
  have l14 := q14.lt
  have c15 := q15.cell
  have f15 := q15.frozen
  have l15 := q15.lt
  have c16 := q16.cell
  have f16 := q16.frozen
  have l16 := q16.lt
  have c17 := q17.cell
  have f17 := q17.frozen
  have l17 := q17.lt
  have c18 := q18.cell
  have f18 := q18.frozen
  have l18 := q18.lt
  go_wp2
  refine Grow.seal_wp ?_
  intro W hW
  have HG2 : Hid (Below w.heap.size w W) := Lib.hid (by
    rw [hW.out]
    (repeat (with_reducible first
      | exact Grow.grow_refl _
      | refine Grow.grow_setCell ?_ ?_ _
      | refine Grow.grow_alloc ?_ _
      | refine Grow.grow_drewN ?_ _
      | refine Grow.grow_over ?_ _
      | refine Grow.grow_via (by assumption) ?_)) <;> omega)
  clear HG
  have HG := HG2
  clear HG2
  replace HZ : w.heap.size ≤ W.heap.size := Below.size HG.out
  clear c4 f4 c5 f5 c6 f6 c8 f8 c13 f13 c14 f14 c15 f15 c16 f16 c17 f17 c18 f18
  apply Grow.have_known (W := W)
  · rw [hW.out]
    apply Known.at q4
    (repeat (with_reducible first | exact q4 | apply Known.same | apply Known.other)) <;> omega
  clear q4
  intro q4
  (try simp only [List.setIfInBounds_toArray, List.set_cons_zero, List.set_cons_succ] at q4)
  apply Grow.have_known (W := W)
  · rw [hW.out]
    apply Known.at q5
    (repeat (with_reducible first | exact q5 | apply Known.same | apply Known.other)) <;> omega
  clear q5
  intro q5
  (try simp only [List.setIfInBounds_toArray, List.set_cons_zero, List.set_cons_succ] at q5)
  apply Grow.have_known (W := W)
  · rw [hW.out]
    apply Known.at q6
    (repeat (with_reducible first | exact q6 | apply Known.same | apply Known.other)) <;> omega
  clear q6
  intro q6
  (try simp only [List.setIfInBounds_toArray, List.set_cons_zero, List.set_cons_succ] at q6)
  apply Grow.have_known (W := W)
  · rw [hW.out]
    apply Known.at q8
    (repeat (with_reducible first | exact q8 | apply Known.same | apply Known.other)) <;> omega
  clear q8
  intro q8
  (try simp only [List.setIfInBounds_toArray, List.set_cons_zero, List.set_cons_succ] at q8)
  apply Grow.have_known (W := W)
  · rw [hW.out]
    apply Known.at q13
    (repeat (with_reducible first | exact q13 | apply Known.same | apply Known.other)) <;> omega
  clear q13
  intro q13
  (try simp only [List.setIfInBounds_toArray, List.set_cons_zero, List.set_cons_succ] at q13)
  apply Grow.have_known (W := W)
  · rw [hW.out]
    apply Known.at q14
    (repeat (with_reducible first | exact q14 | apply Known.same | apply Known.other)) <;> omega
  clear q14
  intro q14
  (try simp only [List.setIfInBounds_toArray, List.set_cons_zero, List.set_cons_succ] at q14)
  apply Grow.have_known (W := W)
  · rw [hW.out]
    apply Known.at q15
    (repeat (with_reducible first | exact q15 | apply Known.same | apply Known.other)) <;> omega
  clear q15
  intro q15
  (try simp only [List.setIfInBounds_toArray, List.set_cons_zero, List.set_cons_succ] at q15)
  apply Grow.have_known (W := W)
  · rw [hW.out]
    apply Known.at q16
    (repeat (with_reducible first | exact q16 | apply Known.same | apply Known.other)) <;> omega
  clear q16
  intro q16
  (try simp only [List.setIfInBounds_toArray, List.set_cons_zero, List.set_cons_succ] at q16)
  apply Grow.have_known (W := W)
  · rw [hW.out]
    apply Known.at q17
    (repeat (with_reducible first | exact q17 | apply Known.same | apply Known.other)) <;> omega
  clear q17
  intro q17
  (try simp only [List.setIfInBounds_toArray, List.set_cons_zero, List.set_cons_succ] at q17)
  apply Grow.have_known (W := W)
  · rw [hW.out]
    apply Known.at q18
    (repeat (with_reducible first | exact q18 | apply Known.same | apply Known.other)) <;> omega
  clear q18
  intro q18
  (try simp only [List.setIfInBounds_toArray, List.set_cons_zero, List.set_cons_succ] at q18)
  clear hW
  have c4 := q4.cell
  have f4 := q4.frozen
  have l4 := q4.lt
  have c5 := q5.cell
  have f5 := q5.frozen
  have l5 := q5.lt
  have c6 := q6.cell
  have f6 := q6.frozen
  have l6 := q6.lt
  have c8 := q8.cell
  have f8 := q8.frozen
  have l8 := q8.lt
  have c13 := q13.cell
  have f13 := q13.frozen
  have l13 := q13.lt
  have c14 := q14.cell
  have f14 := q14.frozen
  have l14 := q14.lt
  have c15 := q15.cell
  have f15 := q15.frozen
  have l15 := q15.lt
  have c16 := q16.cell
  have f16 := q16.frozen
  have l16 := q16.lt
  have c17 := q17.cell
  have f17 := q17.frozen
  have l17 := q17.lt
  have c18 := q18.cell
  have f18 := q18.frozen
  have l18 := q18.lt
  refine Rel.wp_region_rel_tail SpecG 7 (by kernel_rfl) (lexTailB_of_fast (by kernel_rfl) (by kernel_rfl) (by kernel_rfl)) ?_
  simp only [List.append_eq, List.cons_append, List.nil_append, List.take_succ_cons, List.take_zero, List.drop_succ_cons, List.drop_zero]
  repeat (first
    | (refine rel_arith (by rfl) rfl (by rfl) rfl rfl ?_; intro b1 H1; simp only [Act.put, List.setIfInBounds_toArray, List.set_cons_zero, List.set_cons_succ])
    | (refine rel_call (f := 70) (args := #[.float .f64 _, .agg #[.float .f64 _, .float .f64 _, .float .f64 _]]) (by rfl) rfl (callAt_func rfl Try.func70 (by kernel_rfl) (by kernel_rfl) rfl) (keeps_over (fun v h => h) fun x => scaled_walk _ _ _ _ _) ?_; rintro _ ⟨b1, b2, b3, rfl, g1, g2, g3⟩; have G := Lib.hid (v3_eq g1 g2 g3); clear g1 g2 g3; simp only [Act.put, List.setIfInBounds_toArray, List.set_cons_zero, List.set_cons_succ])
    | (refine rel_call (f := 69) (args := #[.agg #[.float .f64 _, .float .f64 _, .float .f64 _], .agg #[.float .f64 _, .float .f64 _, .float .f64 _]]) (by rfl) rfl (callAt_func rfl Try.func69 (by kernel_rfl) (by kernel_rfl) rfl) (keeps_over (fun v h => h) fun x => both_walk _ _ _ _ _ _ _) ?_; rintro _ ⟨b1, b2, b3, rfl, g1, g2, g3⟩; have G := Lib.hid (v3_eq g1 g2 g3); clear g1 g2 g3; simp only [Act.put, List.setIfInBounds_toArray, List.set_cons_zero, List.set_cons_succ])
    | (refine rel_plain (by rfl) rfl ?_; intro K hK; go_big_quiet_op; go_big_quiet_on)
    | (refine rel_skip (by rfl) ?_; simp only [Act.put, List.setIfInBounds_toArray, List.set_cons_zero, List.set_cons_succ]))
  refine Rel.wpRel_nil ?_
  intro w9 hB9 hG9
  clear c4 f4 c5 f5 c6 f6 c8 f8 c13 f13 c14 f14 c15 f15 c16 f16 c17 f17 c18 f18
  replace q4 := q4.below hB9
  replace q5 := q5.below hB9
  replace q6 := q6.below hB9
  replace q8 := q8.below hB9
  replace q13 := q13.below hB9
  replace q14 := q14.below hB9
  replace q15 := q15.below hB9
  replace q16 := q16.below hB9
  replace q17 := q17.below hB9
  replace q18 := q18.below hB9
  clear hG9
  replace HG : Hid (Below w.heap.size w w9) := Lib.hid (Grow.grow_trans HG.out hB9)
  replace HZ : w.heap.size ≤ w9.heap.size := Below.size HG.out
  clear hB9
  have c4 := q4.cell
  have f4 := q4.frozen
  have l4 := q4.lt
  have c5 := q5.cell
  have f5 := q5.frozen
  have l5 := q5.lt
  have c6 := q6.cell
  have f6 := q6.frozen
  have l6 := q6.lt
  have c8 := q8.cell
  have f8 := q8.frozen
  have l8 := q8.lt
  have c13 := q13.cell
  have f13 := q13.frozen
  have l13 := q13.lt
  have c14 := q14.cell
  have f14 := q14.frozen
  have l14 := q14.lt
  have c15 := q15.cell
  have f15 := q15.frozen
  have l15 := q15.lt
  have c16 := q16.cell
  have f16 := q16.frozen
  have l16 := q16.lt
  have c17 := q17.cell
  have f17 := q17.frozen
  have l17 := q17.lt
  have c18 := q18.cell
  have f18 := q18.frozen
  have l18 := q18.lt
  go_wp2_with (first
    | (refine wpList_arith rfl rfl (by rfl) rfl rfl ?_; intro b1 n1 H1)
    | (clear s6
       go_at_call 44
       refine Grow.seal_calls ?_
       intro W hW
       have HG2 : Hid (Below w.heap.size w W) := Lib.hid (by rw [hW.out]; (repeat (with_reducible first | exact Grow.grow_refl _ | refine Grow.grow_setCell ?_ ?_ _ | refine Grow.grow_alloc ?_ _ | refine Grow.grow_drewN ?_ _ | refine Grow.grow_over ?_ _ | refine Grow.grow_via (by assumption) ?_)) <;> omega)
       clear HG
       have HG := HG2
       clear HG2
       clear c4 f4 c5 f5 c6 f6 c8 f8 c13 f13 c14 f14 c15 f15 c16 f16 c17 f17 c18 f18
       apply Grow.have_known (W := W)
       · rw [hW.out]; apply Known.at q4; (repeat (with_reducible first | exact q4 | apply Known.same | apply Known.other | apply Known.alloc | apply Known.drewN)) <;> omega
       clear q4
       intro q4
       (try simp only [List.setIfInBounds_toArray, List.set_cons_zero, List.set_cons_succ] at q4)
       apply Grow.have_known (W := W)
       · rw [hW.out]; apply Known.at q5; (repeat (with_reducible first | exact q5 | apply Known.same | apply Known.other | apply Known.alloc | apply Known.drewN)) <;> omega
       clear q5
       intro q5
       (try simp only [List.setIfInBounds_toArray, List.set_cons_zero, List.set_cons_succ] at q5)
       apply Grow.have_known (W := W)
       · rw [hW.out]; apply Known.at q6; (repeat (with_reducible first | exact q6 | apply Known.same | apply Known.other | apply Known.alloc | apply Known.drewN)) <;> omega
       clear q6
       intro q6
       (try simp only [List.setIfInBounds_toArray, List.set_cons_zero, List.set_cons_succ] at q6)
       apply Grow.have_known (W := W)
       · rw [hW.out]; apply Known.at q8; (repeat (with_reducible first | exact q8 | apply Known.same | apply Known.other | apply Known.alloc | apply Known.drewN)) <;> omega
       clear q8
       intro q8
       (try simp only [List.setIfInBounds_toArray, List.set_cons_zero, List.set_cons_succ] at q8)
       apply Grow.have_known (W := W)
       · rw [hW.out]; apply Known.at q13; (repeat (with_reducible first | exact q13 | apply Known.same | apply Known.other | apply Known.alloc | apply Known.drewN)) <;> omega
       clear q13
       intro q13
       (try simp only [List.setIfInBounds_toArray, List.set_cons_zero, List.set_cons_succ] at q13)
       apply Grow.have_known (W := W)
       · rw [hW.out]; apply Known.at q14; (repeat (with_reducible first | exact q14 | apply Known.same | apply Known.other | apply Known.alloc | apply Known.drewN)) <;> omega
       clear q14
       intro q14
       (try simp only [List.setIfInBounds_toArray, List.set_cons_zero, List.set_cons_succ] at q14)
       apply Grow.have_known (W := W)
       · rw [hW.out]; apply Known.at q15; (repeat (with_reducible first | exact q15 | apply Known.same | apply Known.other | apply Known.alloc | apply Known.drewN)) <;> omega
       clear q15
       intro q15
       (try simp only [List.setIfInBounds_toArray, List.set_cons_zero, List.set_cons_succ] at q15)
       apply Grow.have_known (W := W)
       · rw [hW.out]; apply Known.at q16; (repeat (with_reducible first | exact q16 | apply Known.same | apply Known.other | apply Known.alloc | apply Known.drewN)) <;> omega
       clear q16
       intro q16
       (try simp only [List.setIfInBounds_toArray, List.set_cons_zero, List.set_cons_succ] at q16)
       apply Grow.have_known (W := W)
       · rw [hW.out]; apply Known.at q17; (repeat (with_reducible first | exact q17 | apply Known.same | apply Known.other | apply Known.alloc | apply Known.drewN)) <;> omega
       clear q17
       intro q17
       (try simp only [List.setIfInBounds_toArray, List.set_cons_zero, List.set_cons_succ] at q17)
       apply Grow.have_known (W := W)
       · rw [hW.out]; apply Known.at q18; (repeat (with_reducible first | exact q18 | apply Known.same | apply Known.other | apply Known.alloc | apply Known.drewN)) <;> omega
       clear q18
       intro q18
       (try simp only [List.setIfInBounds_toArray, List.set_cons_zero, List.set_cons_succ] at q18)
       replace HZ : w.heap.size ≤ W.heap.size := Below.size HG.out
       clear hW
       refine (lengthOf_walk _ _ _ _).mono ?_
       rintro e w1 hp
       obtain ⟨v, rfl, hp, hB⟩ := hp
       obtain ⟨b, rfl, hb⟩ := hp
       have H := Lib.hid hb; clear hb
       replace q4 := q4.below hB
       replace q5 := q5.below hB
       replace q6 := q6.below hB
       replace q8 := q8.below hB
       replace q13 := q13.below hB
       replace q14 := q14.below hB
       replace q15 := q15.below hB
       replace q16 := q16.below hB
       replace q17 := q17.below hB
       replace q18 := q18.below hB
       replace HG : Hid (Below w.heap.size w w1) := Lib.hid (Grow.grow_trans HG.out hB)
       replace HZ : w.heap.size ≤ w1.heap.size := Below.size HG.out
       clear hB
       have c4 := q4.cell; have f4 := q4.frozen; have l4 := q4.lt
       have c5 := q5.cell; have f5 := q5.frozen; have l5 := q5.lt
       have c6 := q6.cell; have f6 := q6.frozen; have l6 := q6.lt
       have c8 := q8.cell; have f8 := q8.frozen; have l8 := q8.lt
       have c13 := q13.cell; have f13 := q13.frozen; have l13 := q13.lt
       have c14 := q14.cell; have f14 := q14.frozen; have l14 := q14.lt
       have c15 := q15.cell; have f15 := q15.frozen; have l15 := q15.lt
       have c16 := q16.cell; have f16 := q16.frozen; have l16 := q16.lt
       have c17 := q17.cell; have f17 := q17.frozen; have l17 := q17.lt
       have c18 := q18.cell; have f18 := q18.frozen; have l18 := q18.lt
       have s7 := trivial)
    | (clear s7
       go_at_call 44
       refine Grow.seal_calls ?_
       intro W hW
       have HG2 : Hid (Below w.heap.size w W) := Lib.hid (by rw [hW.out]; (repeat (with_reducible first | exact Grow.grow_refl _ | refine Grow.grow_setCell ?_ ?_ _ | refine Grow.grow_alloc ?_ _ | refine Grow.grow_drewN ?_ _ | refine Grow.grow_over ?_ _ | refine Grow.grow_via (by assumption) ?_)) <;> omega)
       clear HG
       have HG := HG2
       clear HG2
       clear c4 f4 c5 f5 c6 f6 c8 f8 c13 f13 c14 f14 c15 f15 c16 f16 c17 f17 c18 f18
       apply Grow.have_known (W := W)
       · rw [hW.out]; apply Known.at q4; (repeat (with_reducible first | exact q4 | apply Known.same | apply Known.other | apply Known.alloc | apply Known.drewN)) <;> omega
       clear q4
       intro q4
       (try simp only [List.setIfInBounds_toArray, List.set_cons_zero, List.set_cons_succ] at q4)
       apply Grow.have_known (W := W)
       · rw [hW.out]; apply Known.at q5; (repeat (with_reducible first | exact q5 | apply Known.same | apply Known.other | apply Known.alloc | apply Known.drewN)) <;> omega
       clear q5
       intro q5
       (try simp only [List.setIfInBounds_toArray, List.set_cons_zero, List.set_cons_succ] at q5)
       apply Grow.have_known (W := W)
       · rw [hW.out]; apply Known.at q6; (repeat (with_reducible first | exact q6 | apply Known.same | apply Known.other | apply Known.alloc | apply Known.drewN)) <;> omega
       clear q6
       intro q6
       (try simp only [List.setIfInBounds_toArray, List.set_cons_zero, List.set_cons_succ] at q6)
       apply Grow.have_known (W := W)
       · rw [hW.out]; apply Known.at q8; (repeat (with_reducible first | exact q8 | apply Known.same | apply Known.other | apply Known.alloc | apply Known.drewN)) <;> omega
       clear q8
       intro q8
       (try simp only [List.setIfInBounds_toArray, List.set_cons_zero, List.set_cons_succ] at q8)
       apply Grow.have_known (W := W)
       · rw [hW.out]; apply Known.at q13; (repeat (with_reducible first | exact q13 | apply Known.same | apply Known.other | apply Known.alloc | apply Known.drewN)) <;> omega
       clear q13
       intro q13
       (try simp only [List.setIfInBounds_toArray, List.set_cons_zero, List.set_cons_succ] at q13)
       apply Grow.have_known (W := W)
       · rw [hW.out]; apply Known.at q14; (repeat (with_reducible first | exact q14 | apply Known.same | apply Known.other | apply Known.alloc | apply Known.drewN)) <;> omega
       clear q14
       intro q14
       (try simp only [List.setIfInBounds_toArray, List.set_cons_zero, List.set_cons_succ] at q14)
       apply Grow.have_known (W := W)
       · rw [hW.out]; apply Known.at q15; (repeat (with_reducible first | exact q15 | apply Known.same | apply Known.other | apply Known.alloc | apply Known.drewN)) <;> omega
       clear q15
       intro q15
       (try simp only [List.setIfInBounds_toArray, List.set_cons_zero, List.set_cons_succ] at q15)
       apply Grow.have_known (W := W)
       · rw [hW.out]; apply Known.at q16; (repeat (with_reducible first | exact q16 | apply Known.same | apply Known.other | apply Known.alloc | apply Known.drewN)) <;> omega
       clear q16
       intro q16
       (try simp only [List.setIfInBounds_toArray, List.set_cons_zero, List.set_cons_succ] at q16)
       apply Grow.have_known (W := W)
       · rw [hW.out]; apply Known.at q17; (repeat (with_reducible first | exact q17 | apply Known.same | apply Known.other | apply Known.alloc | apply Known.drewN)) <;> omega
       clear q17
       intro q17
       (try simp only [List.setIfInBounds_toArray, List.set_cons_zero, List.set_cons_succ] at q17)
       apply Grow.have_known (W := W)
       · rw [hW.out]; apply Known.at q18; (repeat (with_reducible first | exact q18 | apply Known.same | apply Known.other | apply Known.alloc | apply Known.drewN)) <;> omega
       clear q18
       intro q18
       (try simp only [List.setIfInBounds_toArray, List.set_cons_zero, List.set_cons_succ] at q18)
       replace HZ : w.heap.size ≤ W.heap.size := Below.size HG.out
       clear hW
       refine (lengthOf_walk _ _ _ _).mono ?_
       rintro e w1 hp
       obtain ⟨v, rfl, hp, hB⟩ := hp
       obtain ⟨b, rfl, hb⟩ := hp
       have H := Lib.hid hb; clear hb
       replace q4 := q4.below hB
       replace q5 := q5.below hB
       replace q6 := q6.below hB
       replace q8 := q8.below hB
       replace q13 := q13.below hB
       replace q14 := q14.below hB
       replace q15 := q15.below hB
       replace q16 := q16.below hB
       replace q17 := q17.below hB
       replace q18 := q18.below hB
       replace HG : Hid (Below w.heap.size w w1) := Lib.hid (Grow.grow_trans HG.out hB)
       replace HZ : w.heap.size ≤ w1.heap.size := Below.size HG.out
       clear hB
       have c4 := q4.cell; have f4 := q4.frozen; have l4 := q4.lt
       have c5 := q5.cell; have f5 := q5.frozen; have l5 := q5.lt
       have c6 := q6.cell; have f6 := q6.frozen; have l6 := q6.lt
       have c8 := q8.cell; have f8 := q8.frozen; have l8 := q8.lt
       have c13 := q13.cell; have f13 := q13.frozen; have l13 := q13.lt
       have c14 := q14.cell; have f14 := q14.frozen; have l14 := q14.lt
       have c15 := q15.cell; have f15 := q15.frozen; have l15 := q15.lt
       have c16 := q16.cell; have f16 := q16.frozen; have l16 := q16.lt
       have c17 := q17.cell; have f17 := q17.frozen; have l17 := q17.lt
       have c18 := q18.cell; have f18 := q18.frozen; have l18 := q18.lt
       have s8 := trivial)
    | (clear s8
       go_at_call 60
       refine Grow.seal_calls ?_
       intro W hW
       have HG2 : Hid (Below w.heap.size w W) := Lib.hid (by rw [hW.out]; (repeat (with_reducible first | exact Grow.grow_refl _ | refine Grow.grow_setCell ?_ ?_ _ | refine Grow.grow_alloc ?_ _ | refine Grow.grow_drewN ?_ _ | refine Grow.grow_over ?_ _ | refine Grow.grow_via (by assumption) ?_)) <;> omega)
       clear HG
       have HG := HG2
       clear HG2
       clear c4 f4 c5 f5 c6 f6 c8 f8 c13 f13 c14 f14 c15 f15 c16 f16 c17 f17 c18 f18
       apply Grow.have_known (W := W)
       · rw [hW.out]; apply Known.at q4; (repeat (with_reducible first | exact q4 | apply Known.same | apply Known.other | apply Known.alloc | apply Known.drewN)) <;> omega
       clear q4
       intro q4
       (try simp only [List.setIfInBounds_toArray, List.set_cons_zero, List.set_cons_succ] at q4)
       apply Grow.have_known (W := W)
       · rw [hW.out]; apply Known.at q5; (repeat (with_reducible first | exact q5 | apply Known.same | apply Known.other | apply Known.alloc | apply Known.drewN)) <;> omega
       clear q5
       intro q5
       (try simp only [List.setIfInBounds_toArray, List.set_cons_zero, List.set_cons_succ] at q5)
       apply Grow.have_known (W := W)
       · rw [hW.out]; apply Known.at q6; (repeat (with_reducible first | exact q6 | apply Known.same | apply Known.other | apply Known.alloc | apply Known.drewN)) <;> omega
       clear q6
       intro q6
       (try simp only [List.setIfInBounds_toArray, List.set_cons_zero, List.set_cons_succ] at q6)
       apply Grow.have_known (W := W)
       · rw [hW.out]; apply Known.at q8; (repeat (with_reducible first | exact q8 | apply Known.same | apply Known.other | apply Known.alloc | apply Known.drewN)) <;> omega
       clear q8
       intro q8
       (try simp only [List.setIfInBounds_toArray, List.set_cons_zero, List.set_cons_succ] at q8)
       apply Grow.have_known (W := W)
       · rw [hW.out]; apply Known.at q13; (repeat (with_reducible first | exact q13 | apply Known.same | apply Known.other | apply Known.alloc | apply Known.drewN)) <;> omega
       clear q13
       intro q13
       (try simp only [List.setIfInBounds_toArray, List.set_cons_zero, List.set_cons_succ] at q13)
       apply Grow.have_known (W := W)
       · rw [hW.out]; apply Known.at q14; (repeat (with_reducible first | exact q14 | apply Known.same | apply Known.other | apply Known.alloc | apply Known.drewN)) <;> omega
       clear q14
       intro q14
       (try simp only [List.setIfInBounds_toArray, List.set_cons_zero, List.set_cons_succ] at q14)
       apply Grow.have_known (W := W)
       · rw [hW.out]; apply Known.at q15; (repeat (with_reducible first | exact q15 | apply Known.same | apply Known.other | apply Known.alloc | apply Known.drewN)) <;> omega
       clear q15
       intro q15
       (try simp only [List.setIfInBounds_toArray, List.set_cons_zero, List.set_cons_succ] at q15)
       apply Grow.have_known (W := W)
       · rw [hW.out]; apply Known.at q16; (repeat (with_reducible first | exact q16 | apply Known.same | apply Known.other | apply Known.alloc | apply Known.drewN)) <;> omega
       clear q16
       intro q16
       (try simp only [List.setIfInBounds_toArray, List.set_cons_zero, List.set_cons_succ] at q16)
       apply Grow.have_known (W := W)
       · rw [hW.out]; apply Known.at q17; (repeat (with_reducible first | exact q17 | apply Known.same | apply Known.other | apply Known.alloc | apply Known.drewN)) <;> omega
       clear q17
       intro q17
       (try simp only [List.setIfInBounds_toArray, List.set_cons_zero, List.set_cons_succ] at q17)
       apply Grow.have_known (W := W)
       · rw [hW.out]; apply Known.at q18; (repeat (with_reducible first | exact q18 | apply Known.same | apply Known.other | apply Known.alloc | apply Known.drewN)) <;> omega
       clear q18
       intro q18
       (try simp only [List.setIfInBounds_toArray, List.set_cons_zero, List.set_cons_succ] at q18)
       replace HZ : w.heap.size ≤ W.heap.size := Below.size HG.out
       clear hW
       refine (sqrt_walk _ _).mono ?_
       rintro e w1 hp
       obtain ⟨v, rfl, hp, hB⟩ := PostD.post hp
       obtain ⟨b, rfl, hb⟩ := hp
       have H := Lib.hid hb; clear hb
       replace q4 := q4.below hB
       replace q5 := q5.below hB
       replace q6 := q6.below hB
       replace q8 := q8.below hB
       replace q13 := q13.below hB
       replace q14 := q14.below hB
       replace q15 := q15.below hB
       replace q16 := q16.below hB
       replace q17 := q17.below hB
       replace q18 := q18.below hB
       replace HG : Hid (Below w.heap.size w w1) := Lib.hid (Grow.grow_trans HG.out hB)
       replace HZ : w.heap.size ≤ w1.heap.size := Below.size HG.out
       clear hB
       have c4 := q4.cell; have f4 := q4.frozen; have l4 := q4.lt
       have c5 := q5.cell; have f5 := q5.frozen; have l5 := q5.lt
       have c6 := q6.cell; have f6 := q6.frozen; have l6 := q6.lt
       have c8 := q8.cell; have f8 := q8.frozen; have l8 := q8.lt
       have c13 := q13.cell; have f13 := q13.frozen; have l13 := q13.lt
       have c14 := q14.cell; have f14 := q14.frozen; have l14 := q14.lt
       have c15 := q15.cell; have f15 := q15.frozen; have l15 := q15.lt
       have c16 := q16.cell; have f16 := q16.frozen; have l16 := q16.lt
       have c17 := q17.cell; have f17 := q17.frozen; have l17 := q17.lt
       have c18 := q18.cell; have f18 := q18.frozen; have l18 := q18.lt
       have s9 := trivial))
  refine Grow.seal_wp ?_
  intro W hW
  have HG2 : Hid (Below w.heap.size w W) := Lib.hid (by rw [hW.out]; (repeat (with_reducible first | exact Grow.grow_refl _ | refine Grow.grow_setCell ?_ ?_ _ | refine Grow.grow_alloc ?_ _ | refine Grow.grow_drewN ?_ _ | refine Grow.grow_over ?_ _ | refine Grow.grow_via (by assumption) ?_)) <;> omega)
  clear HG
  have HG := HG2
  clear HG2
  clear c4 f4 c5 f5 c6 f6 c8 f8 c13 f13 c14 f14 c15 f15 c16 f16 c17 f17 c18 f18
  apply Grow.have_known (W := W)
  · rw [hW.out]; apply Known.at q4; (repeat (with_reducible first | exact q4 | apply Known.same | apply Known.other | apply Known.alloc | apply Known.drewN)) <;> omega
  clear q4
  intro q4
  (try simp only [List.setIfInBounds_toArray, List.set_cons_zero, List.set_cons_succ] at q4)
  apply Grow.have_known (W := W)
  · rw [hW.out]; apply Known.at q5; (repeat (with_reducible first | exact q5 | apply Known.same | apply Known.other | apply Known.alloc | apply Known.drewN)) <;> omega
  clear q5
  intro q5
  (try simp only [List.setIfInBounds_toArray, List.set_cons_zero, List.set_cons_succ] at q5)
  apply Grow.have_known (W := W)
  · rw [hW.out]; apply Known.at q6; (repeat (with_reducible first | exact q6 | apply Known.same | apply Known.other | apply Known.alloc | apply Known.drewN)) <;> omega
  clear q6
  intro q6
  (try simp only [List.setIfInBounds_toArray, List.set_cons_zero, List.set_cons_succ] at q6)
  apply Grow.have_known (W := W)
  · rw [hW.out]; apply Known.at q8; (repeat (with_reducible first | exact q8 | apply Known.same | apply Known.other | apply Known.alloc | apply Known.drewN)) <;> omega
  clear q8
  intro q8
  (try simp only [List.setIfInBounds_toArray, List.set_cons_zero, List.set_cons_succ] at q8)
  apply Grow.have_known (W := W)
  · rw [hW.out]; apply Known.at q13; (repeat (with_reducible first | exact q13 | apply Known.same | apply Known.other | apply Known.alloc | apply Known.drewN)) <;> omega
  clear q13
  intro q13
  (try simp only [List.setIfInBounds_toArray, List.set_cons_zero, List.set_cons_succ] at q13)
  apply Grow.have_known (W := W)
  · rw [hW.out]; apply Known.at q14; (repeat (with_reducible first | exact q14 | apply Known.same | apply Known.other | apply Known.alloc | apply Known.drewN)) <;> omega
  clear q14
  intro q14
  (try simp only [List.setIfInBounds_toArray, List.set_cons_zero, List.set_cons_succ] at q14)
  apply Grow.have_known (W := W)
  · rw [hW.out]; apply Known.at q15; (repeat (with_reducible first | exact q15 | apply Known.same | apply Known.other | apply Known.alloc | apply Known.drewN)) <;> omega
  clear q15
  intro q15
  (try simp only [List.setIfInBounds_toArray, List.set_cons_zero, List.set_cons_succ] at q15)
  apply Grow.have_known (W := W)
  · rw [hW.out]; apply Known.at q16; (repeat (with_reducible first | exact q16 | apply Known.same | apply Known.other | apply Known.alloc | apply Known.drewN)) <;> omega
  clear q16
  intro q16
  (try simp only [List.setIfInBounds_toArray, List.set_cons_zero, List.set_cons_succ] at q16)
  apply Grow.have_known (W := W)
  · rw [hW.out]; apply Known.at q17; (repeat (with_reducible first | exact q17 | apply Known.same | apply Known.other | apply Known.alloc | apply Known.drewN)) <;> omega
  clear q17
  intro q17
  (try simp only [List.setIfInBounds_toArray, List.set_cons_zero, List.set_cons_succ] at q17)
  apply Grow.have_known (W := W)
  · rw [hW.out]; apply Known.at q18; (repeat (with_reducible first | exact q18 | apply Known.same | apply Known.other | apply Known.alloc | apply Known.drewN)) <;> omega
  clear q18
  intro q18
  (try simp only [List.setIfInBounds_toArray, List.set_cons_zero, List.set_cons_succ] at q18)
  replace HZ : w.heap.size ≤ W.heap.size := Below.size HG.out
  clear hW
  have c4 := q4.cell; have f4 := q4.frozen; have l4 := q4.lt
  have c5 := q5.cell; have f5 := q5.frozen; have l5 := q5.lt
  have c6 := q6.cell; have f6 := q6.frozen; have l6 := q6.lt
  have c8 := q8.cell; have f8 := q8.frozen; have l8 := q8.lt
  have c13 := q13.cell; have f13 := q13.frozen; have l13 := q13.lt
  have c14 := q14.cell; have f14 := q14.frozen; have l14 := q14.lt
  have c15 := q15.cell; have f15 := q15.frozen; have l15 := q15.lt
  have c16 := q16.cell; have f16 := q16.frozen; have l16 := q16.lt
  have c17 := q17.cell; have f17 := q17.frozen; have l17 := q17.lt
  have c18 := q18.cell; have f18 := q18.frozen; have l18 := q18.lt
  refine Rel.wp_region_rel_tail SpecG 11 (by kernel_rfl) (lexTailB_of_fast (by kernel_rfl) (by kernel_rfl) (by kernel_rfl)) ?_
  simp only [List.append_eq, List.cons_append, List.nil_append, List.take_succ_cons, List.take_zero, List.drop_succ_cons, List.drop_zero]
  repeat (first
    | (refine rel_arith (by rfl) rfl (by rfl) rfl rfl ?_; intro b1 H1; simp only [Act.put, List.setIfInBounds_toArray, List.set_cons_zero, List.set_cons_succ])
    | (refine rel_call (f := 68) (args := #[.agg #[.float .f64 _, .float .f64 _, .float .f64 _], .agg #[.float .f64 _, .float .f64 _, .float .f64 _]]) (by rfl) rfl (callAt_func rfl Try.func68 (by kernel_rfl) (by kernel_rfl) rfl) (keeps_over (fun v h => h) fun x => crossOf_walk _ _ _ _ _ _ _) ?_; rintro _ ⟨b1, b2, b3, rfl, g1, g2, g3⟩; have G := Lib.hid (v3_eq g1 g2 g3); clear g1 g2 g3; simp only [Act.put, List.setIfInBounds_toArray, List.set_cons_zero, List.set_cons_succ])
    | (refine rel_call (f := 70) (args := #[.float .f64 _, .agg #[.float .f64 _, .float .f64 _, .float .f64 _]]) (by rfl) rfl (callAt_func rfl Try.func70 (by kernel_rfl) (by kernel_rfl) rfl) (keeps_over (fun v h => h) fun x => scaled_walk _ _ _ _ _) ?_; rintro _ ⟨b1, b2, b3, rfl, g1, g2, g3⟩; have G := Lib.hid (v3_eq g1 g2 g3); clear g1 g2 g3; simp only [Act.put, List.setIfInBounds_toArray, List.set_cons_zero, List.set_cons_succ])
    | (refine rel_call (f := 69) (args := #[.agg #[.float .f64 _, .float .f64 _, .float .f64 _], .agg #[.float .f64 _, .float .f64 _, .float .f64 _]]) (by rfl) rfl (callAt_func rfl Try.func69 (by kernel_rfl) (by kernel_rfl) rfl) (keeps_over (fun v h => h) fun x => both_walk _ _ _ _ _ _ _) ?_; rintro _ ⟨b1, b2, b3, rfl, g1, g2, g3⟩; have G := Lib.hid (v3_eq g1 g2 g3); clear g1 g2 g3; simp only [Act.put, List.setIfInBounds_toArray, List.set_cons_zero, List.set_cons_succ])
    | (refine rel_alloc (by rfl) rfl alloc41 ?_; intro k hk; have hk1 := hk.1; have hk2 := hk.2; clear hk; (try simp only [World.size_alloc, World.size_setCell, World.heap_drewN] at hk1); (try simp only [List.forall_mem_cons] at hk2); (try obtain ⟨hk2, hk3⟩ := hk2); (try obtain ⟨hk3, hk4⟩ := hk3); (try obtain ⟨hk4, hk5⟩ := hk4); simp only [Act.put, List.setIfInBounds_toArray, List.set_cons_zero, List.set_cons_succ])
    | (refine rel_plain (by rfl) rfl ?_; intro K hK; go_big_quiet_op; go_big_quiet_on)
    | (refine rel_skip (by rfl) ?_; simp only [Act.put, List.setIfInBounds_toArray, List.set_cons_zero, List.set_cons_succ]))
  refine Rel.wpRel_nil ?_
  intro w9 hB9 hG9
  clear c4 f4 c5 f5 c6 f6 c8 f8 c13 f13 c14 f14 c15 f15 c16 f16 c17 f17 c18 f18
  replace q4 := q4.below hB9
  replace q5 := q5.below hB9
  replace q6 := q6.below hB9
  replace q8 := q8.below hB9
  replace q13 := q13.below hB9
  replace q14 := q14.below hB9
  replace q15 := q15.below hB9
  replace q16 := q16.below hB9
  replace q17 := q17.below hB9
  replace q18 := q18.below hB9
  simp only [Rel.holds, List.forall_mem_cons] at hG9
  obtain ⟨hx0, -⟩ := hG9
  have q22 := Known.held hx0
  clear hx0
  have m22 := q22.ge (n := w.heap.size) (by omega)
  replace HG : Hid (Below w.heap.size w w9) := Lib.hid (Grow.grow_trans HG.out hB9)
  replace HZ : w.heap.size ≤ w9.heap.size := Below.size HG.out
  clear hB9
  have c4 := q4.cell
  have f4 := q4.frozen
  have l4 := q4.lt
  have c5 := q5.cell
  have f5 := q5.frozen
  have l5 := q5.lt
  have c6 := q6.cell
  have f6 := q6.frozen
  have l6 := q6.lt
  have c8 := q8.cell
  have f8 := q8.frozen
  have l8 := q8.lt
  have c13 := q13.cell
  have f13 := q13.frozen
  have l13 := q13.lt
  have c14 := q14.cell
  have f14 := q14.frozen
  have l14 := q14.lt
  have c15 := q15.cell
  have f15 := q15.frozen
  have l15 := q15.lt
  have c16 := q16.cell
  have f16 := q16.frozen
  have l16 := q16.lt
  have c17 := q17.cell
  have f17 := q17.frozen
  have l17 := q17.lt
  have c18 := q18.cell
  have f18 := q18.frozen
  have l18 := q18.lt
  have c22 := q22.cell
  have f22 := q22.frozen
  have l22 := q22.lt
  have GV : Hid (V3.mk (fl b1) (fl b2) (fl b3) = gibbsAt ⟨fl p1, fl p2, fl p3⟩ ⟨fl p4, fl p5, fl p6⟩ ⟨fl p7, fl p8, fl p9⟩ (fl kk)) := Lib.hid (by
    simp only [Hid, fop] at *
    simp only [gibbsAt, *])
  cases f1 : fin (fl b1) <;> cases f2 : fin (fl b2) <;> cases f3 : fin (fl b3)
  all_goals
    have F1 := Lib.hid f1
    have F2 := Lib.hid f2
    have F3 := Lib.hid f3
    clear f1 f2 f3
    go_wp2_with (go_at_call 62; refine (finiteRef_walk _ _).mono ?_; rintro e w2 ⟨v, rfl, hv, n2, rfl⟩; simp only [F1.out, F2.out, F3.out] at hv; subst hv)
  all_goals
    apply bodyPost_ret
    · simp [results, Try.results24, go_sem, *]; rfl
    · rfl
    · refine Post.mk (T := IsG _) ?_ ?_
      · have gv := GV.out
        have e1 := F1.out
        have e2 := F2.out
        have e3 := F3.out
        rw [← gv]
        simp only [vfin, e1, e2, e3, Bool.and_true, Bool.true_and, Bool.and_false, Bool.false_and, if_true, Bool.false_eq_true, if_false]
        first
          | exact ⟨_, ⟨_, _, _, rfl, rfl, rfl, rfl⟩, rfl⟩
          | exact ⟨_, ⟨_, _, _, rfl, fl_zero, fl_zero, fl_zero⟩, rfl⟩
      · (repeat (with_reducible first
          | exact Grow.grow_refl _
          | refine Grow.grow_setCell ?_ ?_ _
          | refine Grow.grow_alloc ?_ _
          | refine Grow.grow_drewN ?_ _
          | refine Grow.grow_over ?_ _
          | refine Grow.grow_via (by assumption) ?_)) <;> omega

end Go.Proofs.Ytdnclgpjcgamgaa
