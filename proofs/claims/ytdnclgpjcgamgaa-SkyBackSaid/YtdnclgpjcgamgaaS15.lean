/- The walks of distances; the laws SkyBetween, SkyPlaces, SkyHorizon. -/
import Derived.Test.YtdnclgpjcgamgaaS14
import Derived.Test.YtdnclgpjcgamgaaS4
set_option linter.unusedSimpArgs false
set_option linter.unusedVariables false
namespace Go.Proofs.Ytdnclgpjcgamgaa
open Go.RowKit Go.Fl Go.Grow Go.Tr

set_option maxRecDepth 10000 in
set_option maxHeartbeats 4000000 in
theorem between_walk (x y z u : Int) (w : World) : Calls Try.prog 37 #[.agg #[.int .i64 x, .int .i64 y], .agg #[.int .i64 z, .int .i64 u]] w (Post (fun v => v = .int .i64 (far (pnt x y) (pnt z u))) w) := by
  go_enter Try.func37, Try.ntmps37
  go_wp2
  refine Grow.seal_wp ?_
  intro W hW
  have HG : Hid (Below w.heap.size w W) := Lib.hid (by
    rw [hW.out]
    (repeat (with_reducible first
      | exact Grow.grow_refl _
      | refine Grow.grow_setCell ?_ ?_ _
      | refine Grow.grow_alloc ?_ _
      | refine Grow.grow_drewN ?_ _
      | refine Grow.grow_over ?_ _
      | refine Grow.grow_via (by assumption) ?_)) <;> omega)
  have HZ : w.heap.size ≤ W.heap.size := Below.size HG.out
  apply Grow.have_known (W := W)
  · rw [hW.out]
    exact (Known.new _ _ _).alloc _
  intro q2
  (try simp only [World.size_alloc] at q2)
  apply Grow.have_known (W := W)
  · rw [hW.out]
    exact Known.new _ _ _
  intro q3
  (try simp only [World.size_alloc] at q3)
  clear hW
  have c2 := q2.cell
  have f2 := q2.frozen
  have l2 := q2.lt
  have c3 := q3.cell
  have f3 := q3.frozen
  have l3 := q3.lt
  refine Rel.wp_region_rel_tail SpecB 6 (by kernel_rfl) (lexTailB_of_fast (by kernel_rfl) (by kernel_rfl) (by kernel_rfl)) ?_
  simp only [List.append_eq, List.cons_append, List.nil_append, List.take_succ_cons, List.take_zero, List.drop_succ_cons, List.drop_zero]
  repeat (first
    | (refine rel_arith (by rfl) rfl (by rfl) rfl rfl ?_; intro b1 H1; simp only [Act.put, List.setIfInBounds_toArray, List.set_cons_zero, List.set_cons_succ])
    | (refine rel_call (f := 46) (args := #[.agg #[.int .i64 _, .int .i64 _]]) (by rfl) rfl (callAt_func rfl Try.func46 (by kernel_rfl) (by kernel_rfl) rfl) (keeps_over (fun v h => h) fun x => point_walk _ _ _) ?_; rintro _ ⟨b1, b2, b3, rfl, g1, g2, g3⟩; have G := Lib.hid (v3_eq g1 g2 g3); clear g1 g2 g3; simp only [Act.put, List.setIfInBounds_toArray, List.set_cons_zero, List.set_cons_succ])
    | (refine rel_alloc (by rfl) rfl alloc41 ?_; intro k hk; have hk1 := hk.1; have hk2 := hk.2; clear hk; (try simp only [World.size_alloc, World.size_setCell, World.heap_drewN] at hk1); (try simp only [List.forall_mem_cons] at hk2); (try obtain ⟨hk2, hk3⟩ := hk2); (try obtain ⟨hk3, hk4⟩ := hk3); (try obtain ⟨hk4, hk5⟩ := hk4); simp only [Act.put, List.setIfInBounds_toArray, List.set_cons_zero, List.set_cons_succ])
    | (refine rel_plain (by rfl) rfl ?_; intro K hK; go_big_quiet_op; go_big_quiet_on)
    | (refine rel_skip (by rfl) ?_; simp only [Act.put, List.setIfInBounds_toArray, List.set_cons_zero, List.set_cons_succ]))
  refine Rel.wpRel_nil ?_
  intro w9 hB9 hG9
  clear c2 f2 c3 f3
  replace q2 := q2.below hB9
  replace q3 := q3.below hB9
  simp only [Rel.holds, List.forall_mem_cons] at hG9
  obtain ⟨hx0, hx1, -⟩ := hG9
  have q6 := Known.held hx0
  clear hx0
  have q5 := Known.held hx1
  clear hx1
  have m5 := q5.ge (n := w.heap.size) (by omega)
  have m6 := q6.ge (n := w.heap.size) (by omega)
  replace HG : Hid (Below w.heap.size w w9) := Lib.hid (Grow.grow_trans HG.out hB9)
  replace HZ : w.heap.size ≤ w9.heap.size := Below.size HG.out
  clear hB9
  have c2 := q2.cell
  have f2 := q2.frozen
  have l2 := q2.lt
  have c3 := q3.cell
  have f3 := q3.frozen
  have l3 := q3.lt
  have c5 := q5.cell
  have f5 := q5.frozen
  have l5 := q5.lt
  have c6 := q6.cell
  have f6 := q6.frozen
  have l6 := q6.lt
  go_wp2
  refine Grow.seal_wp ?_
  intro W hW
  have HG2 : Hid (Below w.heap.size w W) := Lib.hid (by
    rw [hW.out]
    (repeat (with_reducible first
      | exact Grow.grow_refl _
      | refine Grow.grow_setCell ?_ ?_ _
      | refine Grow.grow_alloc ?_ _
      | refine Grow.grow_drewN ?_ _
      | refine Grow.grow_over ?_ _
      | refine Grow.grow_via (by assumption) ?_)) <;> omega)
  clear HG
  have HG := HG2
  clear HG2
  replace HZ : w.heap.size ≤ W.heap.size := Below.size HG.out
  clear c2 f2 c3 f3 c5 f5 c6 f6
  apply Grow.have_known (W := W)
  · rw [hW.out]
    apply Known.at q2
    (repeat (with_reducible first | exact q2 | apply Known.same | apply Known.other)) <;> omega
  clear q2
  intro q2
  (try simp only [List.setIfInBounds_toArray, List.set_cons_zero, List.set_cons_succ] at q2)
  apply Grow.have_known (W := W)
  · rw [hW.out]
    apply Known.at q3
    (repeat (with_reducible first | exact q3 | apply Known.same | apply Known.other)) <;> omega
  clear q3
  intro q3
  (try simp only [List.setIfInBounds_toArray, List.set_cons_zero, List.set_cons_succ] at q3)
  apply Grow.have_known (W := W)
  · rw [hW.out]
    apply Known.at q5
    (repeat (with_reducible first | exact q5 | apply Known.same | apply Known.other)) <;> omega
  clear q5
  intro q5
  (try simp only [List.setIfInBounds_toArray, List.set_cons_zero, List.set_cons_succ] at q5)
  apply Grow.have_known (W := W)
  · rw [hW.out]
    apply Known.at q6
    (repeat (with_reducible first | exact q6 | apply Known.same | apply Known.other)) <;> omega
  clear q6
  intro q6
  (try simp only [List.setIfInBounds_toArray, List.set_cons_zero, List.set_cons_succ] at q6)
  clear hW
  have c2 := q2.cell
  have f2 := q2.frozen
  have l2 := q2.lt
  have c3 := q3.cell
  have f3 := q3.frozen
  have l3 := q3.lt
  have c5 := q5.cell
  have f5 := q5.frozen
  have l5 := q5.lt
  have c6 := q6.cell
  have f6 := q6.frozen
  have l6 := q6.lt
  refine Rel.wp_region_rel SpecB (by kernel_rfl) (lexB_of_fast (by kernel_rfl) (by kernel_rfl)) ?_
  repeat (first
    | (refine rel_arith (by rfl) rfl (by rfl) rfl rfl ?_; intro b1 H1; simp only [Act.put, List.setIfInBounds_toArray, List.set_cons_zero, List.set_cons_succ])
    | (refine rel_call (f := 64) (args := #[.agg #[.float .f64 _, .float .f64 _, .float .f64 _], .agg #[.float .f64 _, .float .f64 _, .float .f64 _]]) (by rfl) rfl (callAt_func rfl Try.func64 (by kernel_rfl) (by kernel_rfl) rfl) (keeps_over (fun v h => h) fun x => cross_walk _ _ _ _ _ _ _) ?_; rintro _ ⟨b1, b2, b3, rfl, g1, g2, g3⟩; have G := Lib.hid (v3_eq g1 g2 g3); clear g1 g2 g3; simp only [Act.put, List.setIfInBounds_toArray, List.set_cons_zero, List.set_cons_succ])
    | (refine rel_call (f := 63) (args := #[.agg #[.float .f64 _, .float .f64 _, .float .f64 _]]) (by rfl) rfl (callAt_func rfl Try.func63 (by kernel_rfl) (by kernel_rfl) rfl) (keeps_over (fun v h => h) fun x => length_walk _ _ _ _) ?_; rintro _ ⟨b, rfl, hb⟩; have H := Lib.hid hb; clear hb; simp only [Act.put, List.setIfInBounds_toArray, List.set_cons_zero, List.set_cons_succ])
    | (refine rel_call (f := 78) (args := #[.agg #[.float .f64 _, .float .f64 _, .float .f64 _], .agg #[.float .f64 _, .float .f64 _, .float .f64 _]]) (by rfl) rfl (callAt_func rfl Try.func78 (by kernel_rfl) (by kernel_rfl) rfl) (keeps_over (fun v h => h) fun x => dot_walk _ _ _ _ _ _ _) ?_; rintro _ ⟨b, rfl, hb⟩; have H := Lib.hid hb; clear hb; simp only [Act.put, List.setIfInBounds_toArray, List.set_cons_zero, List.set_cons_succ])
    | (refine rel_call (f := 77) (args := #[.float .f64 _, .float .f64 _]) (by rfl) rfl (callAt_func rfl Try.func77 (by kernel_rfl) (by kernel_rfl) rfl) (keeps_over (fun v h => h) fun x => angle_walk _ _ _) ?_; rintro _ hA; unfold IsA at hA; subst hA; simp only [Act.put, List.setIfInBounds_toArray, List.set_cons_zero, List.set_cons_succ])
    | (refine rel_plain (by rfl) rfl ?_; intro K hK; go_big_quiet_op; go_big_quiet_on)
    | (refine rel_skip (by rfl) ?_; simp only [Act.put, List.setIfInBounds_toArray, List.set_cons_zero, List.set_cons_succ]))
  refine Rel.wpRel_nil ?_
  intro w9 hB9 hG9
  clear c2 f2 c3 f3 c5 f5 c6 f6
  replace q2 := q2.below hB9
  replace q3 := q3.below hB9
  replace q5 := q5.below hB9
  replace q6 := q6.below hB9
  clear hG9
  replace HG : Hid (Below w.heap.size w w9) := Lib.hid (Grow.grow_trans HG.out hB9)
  replace HZ : w.heap.size ≤ w9.heap.size := Below.size HG.out
  clear hB9
  have c2 := q2.cell
  have f2 := q2.frozen
  have l2 := q2.lt
  have c3 := q3.cell
  have f3 := q3.frozen
  have l3 := q3.lt
  have c5 := q5.cell
  have f5 := q5.frozen
  have l5 := q5.lt
  have c6 := q6.cell
  have f6 := q6.frozen
  have l6 := q6.lt
  go_wp2
  go_ret
  refine Post.mk ?_ ?_
  · simp only [Hid, fop] at *
    simp only [far, ← vlen_vl, ← vcross_cr, *]
    (try rfl)
  · (repeat (with_reducible first
      | exact Grow.grow_refl _
      | refine Grow.grow_setCell ?_ ?_ _
      | refine Grow.grow_alloc ?_ _
      | refine Grow.grow_drewN ?_ _
      | refine Grow.grow_over ?_ _
      | refine Grow.grow_via (by assumption) ?_)) <;> omega

set_option maxRecDepth 10000 in
set_option maxHeartbeats 4000000 in
theorem apartFrom_walk (x y z u : Int) (w : World) : Calls Try.prog 39 #[.agg #[.int .i64 x, .int .i64 y], .agg #[.int .i64 z, .int .i64 u]] w (Post (fun v => v = .int .i64 (far (pnt x y) (pnt z u))) w) := by
  have s0 := trivial
  go_enter Try.func39, Try.ntmps39
  go_wp2_with (first
    | (refine wpList_arith rfl rfl (by rfl) rfl rfl ?_; intro b1 n1 H1)
    | (clear s0
       go_at_call 47
       refine Grow.seal_calls ?_
       intro W hW
       have HG : Hid (Below w.heap.size w W) := Lib.hid (by rw [hW.out]; (repeat (with_reducible first | exact Grow.grow_refl _ | refine Grow.grow_setCell ?_ ?_ _ | refine Grow.grow_alloc ?_ _ | refine Grow.grow_drewN ?_ _ | refine Grow.grow_over ?_ _ | refine Grow.grow_via (by assumption) ?_)) <;> omega)
       have HZ : w.heap.size ≤ W.heap.size := Below.size HG.out
       apply Grow.have_known (W := W)
       · rw [hW.out]; exact (Known.new _ _ _).alloc _
       intro q2
       (try simp only [World.size_alloc] at q2)
       apply Grow.have_known (W := W)
       · rw [hW.out]; exact Known.new _ _ _
       intro q3
       (try simp only [World.size_alloc] at q3)
       clear hW
       refine (pointOf_walk _ _ _).mono ?_
       rintro e w1 hp
       obtain ⟨v, rfl, hp, hB⟩ := hp
       obtain ⟨b1, b2, b3, rfl, g1, g2, g3⟩ := hp
       have G := Lib.hid (v3_eq g1 g2 g3); clear g1 g2 g3
       replace q2 := q2.below hB
       replace q3 := q3.below hB
       replace HG : Hid (Below w.heap.size w w1) := Lib.hid (Grow.grow_trans HG.out hB)
       replace HZ : w.heap.size ≤ w1.heap.size := Below.size HG.out
       clear hB
       have c2 := q2.cell; have f2 := q2.frozen; have l2 := q2.lt
       have c3 := q3.cell; have f3 := q3.frozen; have l3 := q3.lt
       have s1 := trivial)
    | (clear s1
       go_at_call 47
       refine Grow.seal_calls ?_
       intro W hW
       have HG2 : Hid (Below w.heap.size w W) := Lib.hid (by rw [hW.out]; (repeat (with_reducible first | exact Grow.grow_refl _ | refine Grow.grow_setCell ?_ ?_ _ | refine Grow.grow_alloc ?_ _ | refine Grow.grow_drewN ?_ _ | refine Grow.grow_over ?_ _ | refine Grow.grow_via (by assumption) ?_)) <;> omega)
       clear HG
       have HG := HG2
       clear HG2
       clear c2 f2 c3 f3
       apply Grow.have_known (W := W)
       · rw [hW.out]; apply Known.at q2; (repeat (with_reducible first | exact q2 | apply Known.same | apply Known.other | apply Known.alloc | apply Known.drewN)) <;> omega
       clear q2
       intro q2
       (try simp only [List.setIfInBounds_toArray, List.set_cons_zero, List.set_cons_succ] at q2)
       apply Grow.have_known (W := W)
       · rw [hW.out]; apply Known.at q3; (repeat (with_reducible first | exact q3 | apply Known.same | apply Known.other | apply Known.alloc | apply Known.drewN)) <;> omega
       clear q3
       intro q3
       (try simp only [List.setIfInBounds_toArray, List.set_cons_zero, List.set_cons_succ] at q3)
       apply Grow.have_known (W := W) (b := w1.heap.size)
       · rw [hW.out]; (repeat (with_reducible first | exact Known.new _ _ _ | apply Known.same | apply Known.other | apply Known.alloc | apply Known.drewN)) <;> omega
       intro q5
       (try simp only [List.setIfInBounds_toArray, List.set_cons_zero, List.set_cons_succ] at q5)
       have m5 := q5.ge (n := w.heap.size) (by omega)
       replace HZ : w.heap.size ≤ W.heap.size := Below.size HG.out
       clear hW
       refine (pointOf_walk _ _ _).mono ?_
       rintro e w1 hp
       obtain ⟨v, rfl, hp, hB⟩ := hp
       obtain ⟨b1, b2, b3, rfl, g1, g2, g3⟩ := hp
       have G := Lib.hid (v3_eq g1 g2 g3); clear g1 g2 g3
       replace q2 := q2.below hB
       replace q3 := q3.below hB
       replace q5 := q5.below hB
       replace HG : Hid (Below w.heap.size w w1) := Lib.hid (Grow.grow_trans HG.out hB)
       replace HZ : w.heap.size ≤ w1.heap.size := Below.size HG.out
       clear hB
       have c2 := q2.cell; have f2 := q2.frozen; have l2 := q2.lt
       have c3 := q3.cell; have f3 := q3.frozen; have l3 := q3.lt
       have c5 := q5.cell; have f5 := q5.frozen; have l5 := q5.lt
       have s2 := trivial))
  refine Grow.seal_wp ?_
  intro W hW
  have HG2 : Hid (Below w.heap.size w W) := Lib.hid (by rw [hW.out]; (repeat (with_reducible first | exact Grow.grow_refl _ | refine Grow.grow_setCell ?_ ?_ _ | refine Grow.grow_alloc ?_ _ | refine Grow.grow_drewN ?_ _ | refine Grow.grow_over ?_ _ | refine Grow.grow_via (by assumption) ?_)) <;> omega)
  clear HG
  have HG := HG2
  clear HG2
  clear c2 f2 c3 f3 c5 f5
  apply Grow.have_known (W := W)
  · rw [hW.out]; apply Known.at q2; (repeat (with_reducible first | exact q2 | apply Known.same | apply Known.other | apply Known.alloc | apply Known.drewN)) <;> omega
  clear q2
  intro q2
  (try simp only [List.setIfInBounds_toArray, List.set_cons_zero, List.set_cons_succ] at q2)
  apply Grow.have_known (W := W)
  · rw [hW.out]; apply Known.at q3; (repeat (with_reducible first | exact q3 | apply Known.same | apply Known.other | apply Known.alloc | apply Known.drewN)) <;> omega
  clear q3
  intro q3
  (try simp only [List.setIfInBounds_toArray, List.set_cons_zero, List.set_cons_succ] at q3)
  apply Grow.have_known (W := W)
  · rw [hW.out]; apply Known.at q5; (repeat (with_reducible first | exact q5 | apply Known.same | apply Known.other | apply Known.alloc | apply Known.drewN)) <;> omega
  clear q5
  intro q5
  (try simp only [List.setIfInBounds_toArray, List.set_cons_zero, List.set_cons_succ] at q5)
  apply Grow.have_known (W := W) (b := w1.heap.size)
  · rw [hW.out]; (repeat (with_reducible first | exact Known.new _ _ _ | apply Known.same | apply Known.other | apply Known.alloc | apply Known.drewN)) <;> omega
  intro q6
  (try simp only [List.setIfInBounds_toArray, List.set_cons_zero, List.set_cons_succ] at q6)
  have m6 := q6.ge (n := w.heap.size) (by omega)
  replace HZ : w.heap.size ≤ W.heap.size := Below.size HG.out
  clear hW
  have c2 := q2.cell; have f2 := q2.frozen; have l2 := q2.lt
  have c3 := q3.cell; have f3 := q3.frozen; have l3 := q3.lt
  have c5 := q5.cell; have f5 := q5.frozen; have l5 := q5.lt
  have c6 := q6.cell; have f6 := q6.frozen; have l6 := q6.lt
  refine Rel.wp_region_rel SpecB (by kernel_rfl) (lexB_of_fast (by kernel_rfl) (by kernel_rfl)) ?_
  repeat (first
    | (refine rel_arith (by rfl) rfl (by rfl) rfl rfl ?_; intro b1 H1; simp only [Act.put, List.setIfInBounds_toArray, List.set_cons_zero, List.set_cons_succ])
    | (refine rel_call (f := 68) (args := #[.agg #[.float .f64 _, .float .f64 _, .float .f64 _], .agg #[.float .f64 _, .float .f64 _, .float .f64 _]]) (by rfl) rfl (callAt_func rfl Try.func68 (by kernel_rfl) (by kernel_rfl) rfl) (keeps_over (fun v h => h) fun x => crossOf_walk _ _ _ _ _ _ _) ?_; rintro _ ⟨b1, b2, b3, rfl, g1, g2, g3⟩; have G := Lib.hid (v3_eq g1 g2 g3); clear g1 g2 g3; simp only [Act.put, List.setIfInBounds_toArray, List.set_cons_zero, List.set_cons_succ])
    | (refine rel_call (f := 44) (args := #[.agg #[.float .f64 _, .float .f64 _, .float .f64 _]]) (by rfl) rfl (callAt_func rfl Try.func44 (by kernel_rfl) (by kernel_rfl) rfl) (keeps_over (fun v h => h) fun x => lengthOf_walk _ _ _ _) ?_; rintro _ ⟨b, rfl, hb⟩; have H := Lib.hid hb; clear hb; simp only [Act.put, List.setIfInBounds_toArray, List.set_cons_zero, List.set_cons_succ])
    | (refine rel_call (f := 42) (args := #[.agg #[.float .f64 _, .float .f64 _, .float .f64 _], .agg #[.float .f64 _, .float .f64 _, .float .f64 _]]) (by rfl) rfl (callAt_func rfl Try.func42 (by kernel_rfl) (by kernel_rfl) rfl) (keeps_over (fun v h => h) fun x => dotOf_walk _ _ _ _ _ _ _) ?_; rintro _ ⟨b, rfl, hb⟩; have H := Lib.hid hb; clear hb; simp only [Act.put, List.setIfInBounds_toArray, List.set_cons_zero, List.set_cons_succ])
    | (refine rel_call (f := 79) (args := #[.float .f64 _, .float .f64 _]) (by rfl) rfl (callAt_func rfl Try.func79 (by kernel_rfl) (by kernel_rfl) rfl) (keeps_over (fun v h => h) fun x => angleOf_walk _ _ _) ?_; rintro _ hA; unfold IsA at hA; subst hA; simp only [Act.put, List.setIfInBounds_toArray, List.set_cons_zero, List.set_cons_succ])
    | (refine rel_plain (by rfl) rfl ?_; intro K hK; go_big_quiet_op; go_big_quiet_on)
    | (refine rel_skip (by rfl) ?_; simp only [Act.put, List.setIfInBounds_toArray, List.set_cons_zero, List.set_cons_succ]))
  refine Rel.wpRel_nil ?_
  intro w9 hB9 hG9
  clear c2 f2 c3 f3 c5 f5 c6 f6
  replace q2 := q2.below hB9
  replace q3 := q3.below hB9
  replace q5 := q5.below hB9
  replace q6 := q6.below hB9
  clear hG9
  replace HG : Hid (Below w.heap.size w w9) := Lib.hid (Grow.grow_trans HG.out hB9)
  replace HZ : w.heap.size ≤ w9.heap.size := Below.size HG.out
  clear hB9
  have c2 := q2.cell
  have f2 := q2.frozen
  have l2 := q2.lt
  have c3 := q3.cell
  have f3 := q3.frozen
  have l3 := q3.lt
  have c5 := q5.cell
  have f5 := q5.frozen
  have l5 := q5.lt
  have c6 := q6.cell
  have f6 := q6.frozen
  have l6 := q6.lt
  go_wp2
  go_ret
  refine Post.mk ?_ ?_
  · simp only [Hid, fop] at *
    simp only [far, ← vlen_vl, ← vcross_cr, *]
    (try rfl)
  · (repeat (with_reducible first
      | exact Grow.grow_refl _
      | refine Grow.grow_setCell ?_ ?_ _
      | refine Grow.grow_alloc ?_ _
      | refine Grow.grow_drewN ?_ _
      | refine Grow.grow_over ?_ _
      | refine Grow.grow_via (by assumption) ?_)) <;> omega

end Go.Proofs.Ytdnclgpjcgamgaa
