/- The laws' walks: SkyBetween, SkyPlaces, SkyHorizon. -/
import Derived.Test.YtdnclgpjcgamgaaS15
set_option linter.unusedSimpArgs false
set_option linter.unusedVariables false
namespace Go.Proofs.Ytdnclgpjcgamgaa
open Go.RowKit Go.Fl Go.Grow Go.Tr

theorem ang10 : ang (fl 4607182418800017408) (fl 0) = (324000000000, true) := by
  rw [ang_val (ox := .eq) (oy := .gt) (by decide +kernel) (by decide +kernel) (by decide +kernel) (by decide +kernel) (by decide)]
  unfold lo0
  rw [bis_eq _ 40 _ _ (by decide)]
  decide +kernel
theorem ang00 : ang (fl 0) (fl 0) = (0, false) := ang_00 (by decide +kernel) (by decide +kernel)
theorem far0 : far (pnt 0 0) (pnt 324000000000 0) = 324000000000 := by
  have e1 : vl (cr (pnt 0 0) (pnt 324000000000 0)) = fl 4607182418800017408 := by decide +kernel
  have e2 : dt (pnt 0 0) (pnt 324000000000 0) = fl 0 := by decide +kernel
  unfold far
  rw [e1, e2, ang10]
theorem hrz0 : plc (hrz 0 5 5) = ((0, 324000000000), true) := by
  have e1 : (hrz 0 5 5).x = fl 0 := by decide +kernel
  have e2 : (hrz 0 5 5).y = fl 0 := by decide +kernel
  have e3 : (hrz 0 5 5).z = fl 4607182418800017408 := by decide +kernel
  have e : hrz 0 5 5 = ⟨fl 0, fl 0, fl 4607182418800017408⟩ := by
    rw [← e3]
    conv => rhs; rw [show V3.mk (fl 0) (fl 0) (hrz 0 5 5).z = V3.mk (hrz 0 5 5).x (hrz 0 5 5).y (hrz 0 5 5).z from by rw [e1, e2]]
  have er : rad ⟨fl 0, fl 0, fl 4607182418800017408⟩ = fl 0 := by decide +kernel
  have ea : ang (V3.z ⟨fl 0, fl 0, fl 4607182418800017408⟩) (rad ⟨fl 0, fl 0, fl 4607182418800017408⟩) = (324000000000, true) := by rw [er]; exact ang10
  rw [e, plc_ok (by decide +kernel) (by decide +kernel) (by decide +kernel) (by rw [ea]), ea]
  show (((ang (fl 0) (fl 0)).1, sgd 324000000000), true) = _
  rw [ang00]
  rfl
theorem pole : (pnt 0 324000000000).z = some 4607182418800017408 := by decide +kernel
theorem pointed_walk (w : World) : Calls Try.prog 45 #[] w (Post (fun v => v = .bool true) w) := by
  have o1 : (FloatKind.f64.format.order 4607182418800017408 4607182418800017408 == some Ordering.eq) = true := by decide +kernel
  go_enter Try.func45, Try.ntmps45
  go_wp2_with (go_at_call 46; refine (point_walk _ _ _).mono ?_; rintro e w1 ⟨v, rfl, ⟨b1, b2, b3, rfl, g1, g2, g3⟩, hB⟩; obtain rfl := fl_some (g3.trans pole); have HB := Lib.hid hB; clear hB g1 g2 g3)
  go_ret
  exact Post.mk rfl (by (repeat (with_reducible first | exact Grow.grow_refl _ | refine Grow.grow_setCell ?_ ?_ _ | refine Grow.grow_alloc ?_ _ | refine Grow.grow_drewN ?_ _ | refine Grow.grow_over ?_ _ | refine Grow.grow_via (by assumption) ?_)) <;> omega)

set_option maxRecDepth 10000 in
set_option maxHeartbeats 4000000 in
theorem skyHorizon_walk (h d l : Int) (w : World) : Calls Try.prog 10 #[.int .i64 h, .int .i64 d, .int .i64 l] w (Post (fun v => v = .bool true) w) := by
  obtain ⟨⟨⟨x1, x2⟩, B⟩, hpl⟩ : ∃ X, plc (hrz h d l) = X := ⟨_, rfl⟩
  have HPL := Lib.hid hpl
  clear hpl
  have s0 := trivial
  go_enter Try.func10, Try.ntmps10
  go_wp2_with (first
    | (clear s0
       go_at_call 50
       refine Grow.seal_calls ?_
       intro W hW
       have HG : Hid (Below w.heap.size w W) := Lib.hid (by rw [hW.out]; (repeat (with_reducible first | exact Grow.grow_refl _ | refine Grow.grow_setCell ?_ ?_ _ | refine Grow.grow_alloc ?_ _ | refine Grow.grow_drewN ?_ _ | refine Grow.grow_over ?_ _ | refine Grow.grow_via (by assumption) ?_)) <;> omega)
       have HZ : w.heap.size ≤ W.heap.size := Below.size HG.out
       clear hW
       refine (above_walk _ _ _ _).mono ?_
       rintro e w1 hp
       obtain ⟨v, rfl, hp, hB⟩ := hp
       have hA := hp; clear hp
       rw [hrz0] at hA; subst hA
       replace HG : Hid (Below w.heap.size w w1) := Lib.hid (Grow.grow_trans HG.out hB)
       replace HZ : w.heap.size ≤ w1.heap.size := Below.size HG.out
       clear hB
       have s1 := trivial)
    | (clear s1
       go_at_call 50
       refine Grow.seal_calls ?_
       intro W hW
       have HG2 : Hid (Below w.heap.size w W) := Lib.hid (by rw [hW.out]; (repeat (with_reducible first | exact Grow.grow_refl _ | refine Grow.grow_setCell ?_ ?_ _ | refine Grow.grow_alloc ?_ _ | refine Grow.grow_drewN ?_ _ | refine Grow.grow_over ?_ _ | refine Grow.grow_via (by assumption) ?_)) <;> omega)
       clear HG
       have HG := HG2
       clear HG2
       replace HZ : w.heap.size ≤ W.heap.size := Below.size HG.out
       clear hW
       refine (above_walk _ _ _ _).mono ?_
       rintro e w1 hp
       obtain ⟨v, rfl, hp, hB⟩ := hp
       have hA := hp; clear hp
       rw [HPL.out] at hA; subst hA
       replace HG : Hid (Below w.heap.size w w1) := Lib.hid (Grow.grow_trans HG.out hB)
       replace HZ : w.heap.size ≤ w1.heap.size := Below.size HG.out
       clear hB
       have s2 := trivial)
    | (clear s2
       go_at_call 51
       refine Grow.seal_calls ?_
       intro W hW
       have HG2 : Hid (Below w.heap.size w W) := Lib.hid (by rw [hW.out]; (repeat (with_reducible first | exact Grow.grow_refl _ | refine Grow.grow_setCell ?_ ?_ _ | refine Grow.grow_alloc ?_ _ | refine Grow.grow_drewN ?_ _ | refine Grow.grow_over ?_ _ | refine Grow.grow_via (by assumption) ?_)) <;> omega)
       clear HG
       have HG := HG2
       clear HG2
       replace HZ : w.heap.size ≤ W.heap.size := Below.size HG.out
       clear hW
       refine (horizonOf_walk _ _ _ _).mono ?_
       rintro e w1 hp
       obtain ⟨v, rfl, hp, hB⟩ := hp
       obtain ⟨b1, b2, b3, rfl, g1, g2, g3⟩ := hp
       have G := Lib.hid (v3_eq g1 g2 g3); clear g1 g2 g3
       replace HG : Hid (Below w.heap.size w w1) := Lib.hid (Grow.grow_trans HG.out hB)
       replace HZ : w.heap.size ≤ w1.heap.size := Below.size HG.out
       clear hB
       have s3 := trivial)
    | (clear s3
       go_at_call 49
       refine Grow.seal_calls ?_
       intro W hW
       have HG2 : Hid (Below w.heap.size w W) := Lib.hid (by rw [hW.out]; (repeat (with_reducible first | exact Grow.grow_refl _ | refine Grow.grow_setCell ?_ ?_ _ | refine Grow.grow_alloc ?_ _ | refine Grow.grow_drewN ?_ _ | refine Grow.grow_over ?_ _ | refine Grow.grow_via (by assumption) ?_)) <;> omega)
       clear HG
       have HG := HG2
       clear HG2
       replace HZ : w.heap.size ≤ W.heap.size := Below.size HG.out
       clear hW
       refine (placeOf_at _ _ _ (hrz h d l) G.out _).mono ?_
       rintro e w1 hp
       obtain ⟨v, rfl, hp, hB⟩ := hp
       have hA := hp; clear hp
       unfold IsPl at hA; rw [HPL.out] at hA; subst hA
       replace HG : Hid (Below w.heap.size w w1) := Lib.hid (Grow.grow_trans HG.out hB)
       replace HZ : w.heap.size ≤ w1.heap.size := Below.size HG.out
       clear hB
       have s4 := trivial))
  go_ret
  exact Post.mk (T := fun v => v = _) (by simp) (by (repeat (with_reducible first | exact Grow.grow_refl _ | refine Grow.grow_setCell ?_ ?_ _ | refine Grow.grow_alloc ?_ _ | refine Grow.grow_drewN ?_ _ | refine Grow.grow_over ?_ _ | refine Grow.grow_via (by assumption) ?_)) <;> omega)

set_option maxRecDepth 10000 in
set_option maxHeartbeats 4000000 in
theorem skyBetween_walk (x y z u : Int) (w : World) : Calls Try.prog 7 #[.agg #[.int .i64 x, .int .i64 y], .agg #[.int .i64 z, .int .i64 u]] w (Post (fun v => v = .bool true) w) := by
  obtain ⟨D, hD⟩ : ∃ D, far (pnt x y) (pnt z u) = D := ⟨_, rfl⟩
  have HD := Lib.hid hD
  have HE := Lib.hid ((far_comm (pnt z u) (pnt x y)).trans hD)
  clear hD
  have s0 := trivial
  go_enter Try.func7, Try.ntmps7
  go_wp2_with (first
    | (clear s0
       go_at_call 37
       refine Grow.seal_calls ?_
       intro W hW
       have HG : Hid (Below w.heap.size w W) := Lib.hid (by rw [hW.out]; (repeat (with_reducible first | exact Grow.grow_refl _ | refine Grow.grow_setCell ?_ ?_ _ | refine Grow.grow_alloc ?_ _ | refine Grow.grow_drewN ?_ _ | refine Grow.grow_over ?_ _ | refine Grow.grow_via (by assumption) ?_)) <;> omega)
       have HZ : w.heap.size ≤ W.heap.size := Below.size HG.out
       apply Grow.have_known (W := W)
       · rw [hW.out]; exact (Known.new _ _ _).alloc _
       intro q2
       (try simp only [World.size_alloc] at q2)
       apply Grow.have_known (W := W)
       · rw [hW.out]; exact Known.new _ _ _
       intro q3
       (try simp only [World.size_alloc] at q3)
       clear hW
       refine (between_walk _ _ _ _ _).mono ?_
       rintro e w1 hp
       obtain ⟨v, rfl, hp, hB⟩ := hp
       have hv := hp; clear hp
       rw [far0] at hv; subst hv
       replace q2 := q2.below hB
       replace q3 := q3.below hB
       replace HG : Hid (Below w.heap.size w w1) := Lib.hid (Grow.grow_trans HG.out hB)
       replace HZ : w.heap.size ≤ w1.heap.size := Below.size HG.out
       clear hB
       have c2 := q2.cell; have f2 := q2.frozen; have l2 := q2.lt
       have c3 := q3.cell; have f3 := q3.frozen; have l3 := q3.lt
       have s1 := trivial))
  refine Rel.wp_region_rel SpecB (by kernel_rfl) (lexB_of_fast (by kernel_rfl) (by kernel_rfl)) ?_
  repeat (first
    | (refine rel_arith (by rfl) rfl (by rfl) rfl rfl ?_; intro b1 H1; simp only [Act.put, List.setIfInBounds_toArray, List.set_cons_zero, List.set_cons_succ])
    | (refine rel_call (f := 38) (args := #[.agg #[.int .i64 _, .int .i64 _]]) (by rfl) rfl (callAt_func rfl Try.func38 (by kernel_rfl) (by kernel_rfl) rfl) (keeps_over (fun v h => h) fun x => place_walk _ _ _) ?_; rintro _ rfl; skip; simp only [Act.put, List.setIfInBounds_toArray, List.set_cons_zero, List.set_cons_succ])
    | (refine rel_call (f := 37) (args := #[.agg #[.int .i64 _, .int .i64 _], .agg #[.int .i64 _, .int .i64 _]]) (by rfl) rfl (callAt_func rfl Try.func37 (by kernel_rfl) (by kernel_rfl) rfl) (keeps_over (fun v h => h) fun x => between_walk _ _ _ _ _) ?_; rintro _ hv; change _ = Value.int .i64 (far (pnt _ _) (pnt _ _)) at hv; (first | rw [HD.out] at hv | rw [HE.out] at hv); subst hv; simp only [Act.put, List.setIfInBounds_toArray, List.set_cons_zero, List.set_cons_succ])
    | (refine rel_plain (by rfl) rfl ?_; intro K hK; go_big_quiet_op; go_big_quiet_on)
    | (refine rel_skip (by rfl) ?_; simp only [Act.put, List.setIfInBounds_toArray, List.set_cons_zero, List.set_cons_succ]))
  refine Rel.wpRel_nil ?_
  intro w9 hB9 hG9
  clear c2 f2 c3 f3
  replace q2 := q2.below hB9
  replace q3 := q3.below hB9
  clear hG9
  replace HG : Hid (Below w.heap.size w w9) := Lib.hid (Grow.grow_trans HG.out hB9)
  replace HZ : w.heap.size ≤ w9.heap.size := Below.size HG.out
  clear hB9
  have c2 := q2.cell
  have f2 := q2.frozen
  have l2 := q2.lt
  have c3 := q3.cell
  have f3 := q3.frozen
  have l3 := q3.lt
  go_wp2
  refine Rel.wp_region_rel SpecB (by kernel_rfl) (lexB_of_fast (by kernel_rfl) (by kernel_rfl)) ?_
  repeat (first
    | (refine rel_arith (by rfl) rfl (by rfl) rfl rfl ?_; intro b1 H1; simp only [Act.put, List.setIfInBounds_toArray, List.set_cons_zero, List.set_cons_succ])
    | (refine rel_call (f := 38) (args := #[.agg #[.int .i64 _, .int .i64 _]]) (by rfl) rfl (callAt_func rfl Try.func38 (by kernel_rfl) (by kernel_rfl) rfl) (keeps_over (fun v h => h) fun x => place_walk _ _ _) ?_; rintro _ rfl; skip; simp only [Act.put, List.setIfInBounds_toArray, List.set_cons_zero, List.set_cons_succ])
    | (refine rel_call (f := 37) (args := #[.agg #[.int .i64 _, .int .i64 _], .agg #[.int .i64 _, .int .i64 _]]) (by rfl) rfl (callAt_func rfl Try.func37 (by kernel_rfl) (by kernel_rfl) rfl) (keeps_over (fun v h => h) fun x => between_walk _ _ _ _ _) ?_; rintro _ hv; change _ = Value.int .i64 (far (pnt _ _) (pnt _ _)) at hv; (first | rw [HD.out] at hv | rw [HE.out] at hv); subst hv; simp only [Act.put, List.setIfInBounds_toArray, List.set_cons_zero, List.set_cons_succ])
    | (refine rel_call (f := 39) (args := #[.agg #[.int .i64 _, .int .i64 _], .agg #[.int .i64 _, .int .i64 _]]) (by rfl) rfl (callAt_func rfl Try.func39 (by kernel_rfl) (by kernel_rfl) rfl) (keeps_over (fun v h => h) fun x => apartFrom_walk _ _ _ _ _) ?_; rintro _ hv; change _ = Value.int .i64 (far (pnt _ _) (pnt _ _)) at hv; (first | rw [HD.out] at hv | rw [HE.out] at hv); subst hv; simp only [Act.put, List.setIfInBounds_toArray, List.set_cons_zero, List.set_cons_succ])
    | (refine rel_plain (by rfl) rfl ?_; intro K hK; go_big_quiet_op; go_big_quiet_on)
    | (refine rel_skip (by rfl) ?_; simp only [Act.put, List.setIfInBounds_toArray, List.set_cons_zero, List.set_cons_succ]))
  refine Rel.wpRel_nil ?_
  intro w9 hB9 hG9
  clear c2 f2 c3 f3
  replace q2 := q2.below hB9
  replace q3 := q3.below hB9
  clear hG9
  replace HG : Hid (Below w.heap.size w w9) := Lib.hid (Grow.grow_trans HG.out hB9)
  replace HZ : w.heap.size ≤ w9.heap.size := Below.size HG.out
  clear hB9
  have c2 := q2.cell
  have f2 := q2.frozen
  have l2 := q2.lt
  have c3 := q3.cell
  have f3 := q3.frozen
  have l3 := q3.lt
  go_wp2
  go_ret
  exact Post.mk (T := fun v => v = _) (by simp) (by (repeat (with_reducible first | exact Grow.grow_refl _ | refine Grow.grow_setCell ?_ ?_ _ | refine Grow.grow_alloc ?_ _ | refine Grow.grow_drewN ?_ _ | refine Grow.grow_over ?_ _ | refine Grow.grow_via (by assumption) ?_)) <;> omega)

theorem eql2 (x y : Int) (w : World) : (binOp .eql 66 (.agg #[.int .i64 x, .int .i64 y]) (.agg #[.int .i64 x, .int .i64 y])).run Try.prog w = .ok (.bool true) w := by
  have e : ∀ p q w, (Op.equalIn 9999 3 (.int .i64 p) (.int .i64 q)).run Try.prog w = .ok (p == q) w := fun _ _ _ => by kernel_rfl
  simp [go_sem, e]
set_option maxRecDepth 10000 in
set_option maxHeartbeats 4000000 in
theorem skyPlaces_walk (x y : Int) (p1 p2 p3 : Nat) (w : World) : Calls Try.prog 9 #[.agg #[.int .i64 x, .int .i64 y], .agg #[.float .f64 p1, .float .f64 p2, .float .f64 p3]] w (Post (fun v => v = .bool true) w) := by
  obtain ⟨⟨⟨x1, x2⟩, B⟩, hpl⟩ : ∃ X, plc ⟨fl p1, fl p2, fl p3⟩ = X := ⟨_, rfl⟩
  have HPL := Lib.hid hpl
  clear hpl
  have hq := eql2 x1 x2
  have s0 := trivial
  go_enter Try.func9, Try.ntmps9
  go_wp2_with (first
    | (clear s0
       go_at_call 45
       refine Grow.seal_calls ?_
       intro W hW
       have HG : Hid (Below w.heap.size w W) := Lib.hid (by rw [hW.out]; (repeat (with_reducible first | exact Grow.grow_refl _ | refine Grow.grow_setCell ?_ ?_ _ | refine Grow.grow_alloc ?_ _ | refine Grow.grow_drewN ?_ _ | refine Grow.grow_over ?_ _ | refine Grow.grow_via (by assumption) ?_)) <;> omega)
       have HZ : w.heap.size ≤ W.heap.size := Below.size HG.out
       apply Grow.have_known (W := W)
       · rw [hW.out]; exact (Known.new _ _ _).alloc _
       intro q2
       (try simp only [World.size_alloc] at q2)
       apply Grow.have_known (W := W)
       · rw [hW.out]; exact Known.new _ _ _
       intro q3
       (try simp only [World.size_alloc] at q3)
       clear hW
       refine (pointed_walk _).mono ?_
       rintro e w1 hp
       obtain ⟨v, rfl, hp, hB⟩ := hp
       subst hp
       skip
       replace q2 := q2.below hB
       replace q3 := q3.below hB
       replace HG : Hid (Below w.heap.size w w1) := Lib.hid (Grow.grow_trans HG.out hB)
       replace HZ : w.heap.size ≤ w1.heap.size := Below.size HG.out
       clear hB
       have c2 := q2.cell; have f2 := q2.frozen; have l2 := q2.lt
       have c3 := q3.cell; have f3 := q3.frozen; have l3 := q3.lt
       have s1 := trivial))
  refine Rel.wp_region_rel SpecB (by kernel_rfl) (lexB_of_fast (by kernel_rfl) (by kernel_rfl)) ?_
  repeat (first
    | (refine rel_arith (by rfl) rfl (by rfl) rfl rfl ?_; intro b1 H1; simp only [Act.put, List.setIfInBounds_toArray, List.set_cons_zero, List.set_cons_succ])
    | (refine rel_call (f := 38) (args := #[.agg #[.int .i64 _, .int .i64 _]]) (by rfl) rfl (callAt_func rfl Try.func38 (by kernel_rfl) (by kernel_rfl) rfl) (keeps_over (fun v h => h) fun x => place_walk _ _ _) ?_; rintro _ rfl; skip; simp only [Act.put, List.setIfInBounds_toArray, List.set_cons_zero, List.set_cons_succ])
    | (refine rel_call (f := 46) (args := #[.agg #[.int .i64 _, .int .i64 _]]) (by rfl) rfl (callAt_func rfl Try.func46 (by kernel_rfl) (by kernel_rfl) rfl) (keeps_over (fun v h => h) fun x => point_walk _ _ _) ?_; rintro _ ⟨b1, b2, b3, rfl, g1, g2, g3⟩; have G1 := Lib.hid g1; have G2 := Lib.hid g2; have G3 := Lib.hid g3; clear g1 g2 g3; simp only [Act.put, List.setIfInBounds_toArray, List.set_cons_zero, List.set_cons_succ])
    | (refine rel_call (f := 47) (args := #[.agg #[.int .i64 _, .int .i64 _]]) (by rfl) rfl (callAt_func rfl Try.func47 (by kernel_rfl) (by kernel_rfl) rfl) (keeps_over (fun v h => h) fun x => pointOf_walk _ _ _) ?_; rintro _ ⟨k1, k2, k3, rfl, e1, e2, e3⟩; have K1 := Lib.hid e1; have K2 := Lib.hid e2; have K3 := Lib.hid e3; clear e1 e2 e3; simp only [Act.put, List.setIfInBounds_toArray, List.set_cons_zero, List.set_cons_succ])
    | (refine rel_call (f := 25) (args := #[.agg #[.float .f64 _, .float .f64 _, .float .f64 _], .agg #[.float .f64 _, .float .f64 _, .float .f64 _]]) (by rfl) rfl (callAt_func rfl Try.func25 (by kernel_rfl) (by kernel_rfl) rfl) (keeps_over (fun v h => h) fun x => sameVec_walk _ _ _ _ _ _ (G1.out.trans K1.out.symm) (G2.out.trans K2.out.symm) (G3.out.trans K3.out.symm) _) ?_; rintro _ rfl; skip; simp only [Act.put, List.setIfInBounds_toArray, List.set_cons_zero, List.set_cons_succ])
    | (refine rel_plain (by rfl) rfl ?_; intro K hK; go_big_quiet_op; go_big_quiet_on)
    | (refine rel_skip (by rfl) ?_; simp only [Act.put, List.setIfInBounds_toArray, List.set_cons_zero, List.set_cons_succ]))
  refine Rel.wpRel_nil ?_
  intro w9 hB9 hG9
  clear c2 f2 c3 f3
  replace q2 := q2.below hB9
  replace q3 := q3.below hB9
  clear hG9
  replace HG : Hid (Below w.heap.size w w9) := Lib.hid (Grow.grow_trans HG.out hB9)
  replace HZ : w.heap.size ≤ w9.heap.size := Below.size HG.out
  clear hB9
  have c2 := q2.cell
  have f2 := q2.frozen
  have l2 := q2.lt
  have c3 := q3.cell
  have f3 := q3.frozen
  have l3 := q3.lt
  go_wp2_with (first
    | (clear s1
       go_at_call 48
       refine Grow.seal_calls ?_
       intro W hW
       have HG2 : Hid (Below w.heap.size w W) := Lib.hid (by rw [hW.out]; (repeat (with_reducible first | exact Grow.grow_refl _ | refine Grow.grow_setCell ?_ ?_ _ | refine Grow.grow_alloc ?_ _ | refine Grow.grow_drewN ?_ _ | refine Grow.grow_over ?_ _ | refine Grow.grow_via (by assumption) ?_)) <;> omega)
       clear HG
       have HG := HG2
       clear HG2
       clear c2 f2 c3 f3
       apply Grow.have_known (W := W)
       · rw [hW.out]; apply Known.at q2; (repeat (with_reducible first | exact q2 | apply Known.same | apply Known.other | apply Known.alloc | apply Known.drewN)) <;> omega
       clear q2
       intro q2
       (try simp only [List.setIfInBounds_toArray, List.set_cons_zero, List.set_cons_succ] at q2)
       apply Grow.have_known (W := W)
       · rw [hW.out]; apply Known.at q3; (repeat (with_reducible first | exact q3 | apply Known.same | apply Known.other | apply Known.alloc | apply Known.drewN)) <;> omega
       clear q3
       intro q3
       (try simp only [List.setIfInBounds_toArray, List.set_cons_zero, List.set_cons_succ] at q3)
       replace HZ : w.heap.size ≤ W.heap.size := Below.size HG.out
       clear hW
       refine (where_walk _ _ _ _).mono ?_
       rintro e w1 hp
       obtain ⟨v, rfl, hp, hB⟩ := hp
       have hA := hp; clear hp
       unfold IsPl at hA; rw [HPL.out] at hA; subst hA
       replace q2 := q2.below hB
       replace q3 := q3.below hB
       replace HG : Hid (Below w.heap.size w w1) := Lib.hid (Grow.grow_trans HG.out hB)
       replace HZ : w.heap.size ≤ w1.heap.size := Below.size HG.out
       clear hB
       have c2 := q2.cell; have f2 := q2.frozen; have l2 := q2.lt
       have c3 := q3.cell; have f3 := q3.frozen; have l3 := q3.lt
       have s2 := trivial)
    | (clear s2
       go_at_call 49
       refine Grow.seal_calls ?_
       intro W hW
       have HG2 : Hid (Below w.heap.size w W) := Lib.hid (by rw [hW.out]; (repeat (with_reducible first | exact Grow.grow_refl _ | refine Grow.grow_setCell ?_ ?_ _ | refine Grow.grow_alloc ?_ _ | refine Grow.grow_drewN ?_ _ | refine Grow.grow_over ?_ _ | refine Grow.grow_via (by assumption) ?_)) <;> omega)
       clear HG
       have HG := HG2
       clear HG2
       clear c2 f2 c3 f3
       apply Grow.have_known (W := W)
       · rw [hW.out]; apply Known.at q2; (repeat (with_reducible first | exact q2 | apply Known.same | apply Known.other | apply Known.alloc | apply Known.drewN)) <;> omega
       clear q2
       intro q2
       (try simp only [List.setIfInBounds_toArray, List.set_cons_zero, List.set_cons_succ] at q2)
       apply Grow.have_known (W := W)
       · rw [hW.out]; apply Known.at q3; (repeat (with_reducible first | exact q3 | apply Known.same | apply Known.other | apply Known.alloc | apply Known.drewN)) <;> omega
       clear q3
       intro q3
       (try simp only [List.setIfInBounds_toArray, List.set_cons_zero, List.set_cons_succ] at q3)
       apply Grow.have_known (W := W) (b := w1.heap.size)
       · rw [hW.out]; (repeat (with_reducible first | exact Known.new _ _ _ | apply Known.same | apply Known.other | apply Known.alloc | apply Known.drewN)) <;> omega
       intro q7
       (try simp only [List.setIfInBounds_toArray, List.set_cons_zero, List.set_cons_succ] at q7)
       have m7 := q7.ge (n := w.heap.size) (by omega)
       replace HZ : w.heap.size ≤ W.heap.size := Below.size HG.out
       clear hW
       refine (placeOf_walk _ _ _ _).mono ?_
       rintro e w1 hp
       obtain ⟨v, rfl, hp, hB⟩ := hp
       have hA := hp; clear hp
       unfold IsPl at hA; rw [HPL.out] at hA; subst hA
       replace q2 := q2.below hB
       replace q3 := q3.below hB
       replace q7 := q7.below hB
       replace HG : Hid (Below w.heap.size w w1) := Lib.hid (Grow.grow_trans HG.out hB)
       replace HZ : w.heap.size ≤ w1.heap.size := Below.size HG.out
       clear hB
       have c2 := q2.cell; have f2 := q2.frozen; have l2 := q2.lt
       have c3 := q3.cell; have f3 := q3.frozen; have l3 := q3.lt
       have c7 := q7.cell; have f7 := q7.frozen; have l7 := q7.lt
       have s3 := trivial))
  refine Grow.seal_wp ?_
  intro W hW
  have HG2 : Hid (Below w.heap.size w W) := Lib.hid (by rw [hW.out]; (repeat (with_reducible first | exact Grow.grow_refl _ | refine Grow.grow_setCell ?_ ?_ _ | refine Grow.grow_alloc ?_ _ | refine Grow.grow_drewN ?_ _ | refine Grow.grow_over ?_ _ | refine Grow.grow_via (by assumption) ?_)) <;> omega)
  clear HG
  have HG := HG2
  clear HG2
  clear c2 f2 c3 f3 c7 f7
  apply Grow.have_known (W := W)
  · rw [hW.out]; apply Known.at q2; (repeat (with_reducible first | exact q2 | apply Known.same | apply Known.other | apply Known.alloc | apply Known.drewN)) <;> omega
  clear q2
  intro q2
  (try simp only [List.setIfInBounds_toArray, List.set_cons_zero, List.set_cons_succ] at q2)
  apply Grow.have_known (W := W)
  · rw [hW.out]; apply Known.at q3; (repeat (with_reducible first | exact q3 | apply Known.same | apply Known.other | apply Known.alloc | apply Known.drewN)) <;> omega
  clear q3
  intro q3
  (try simp only [List.setIfInBounds_toArray, List.set_cons_zero, List.set_cons_succ] at q3)
  apply Grow.have_known (W := W)
  · rw [hW.out]; apply Known.at q7; (repeat (with_reducible first | exact q7 | apply Known.same | apply Known.other | apply Known.alloc | apply Known.drewN)) <;> omega
  clear q7
  intro q7
  (try simp only [List.setIfInBounds_toArray, List.set_cons_zero, List.set_cons_succ] at q7)
  apply Grow.have_known (W := W) (b := w1.heap.size)
  · rw [hW.out]; (repeat (with_reducible first | exact Known.new _ _ _ | apply Known.same | apply Known.other | apply Known.alloc | apply Known.drewN)) <;> omega
  intro q9
  (try simp only [List.setIfInBounds_toArray, List.set_cons_zero, List.set_cons_succ] at q9)
  have m9 := q9.ge (n := w.heap.size) (by omega)
  replace HZ : w.heap.size ≤ W.heap.size := Below.size HG.out
  clear hW
  have c2 := q2.cell; have f2 := q2.frozen; have l2 := q2.lt
  have c3 := q3.cell; have f3 := q3.frozen; have l3 := q3.lt
  have c7 := q7.cell; have f7 := q7.frozen; have l7 := q7.lt
  have c9 := q9.cell; have f9 := q9.frozen; have l9 := q9.lt
  refine Rel.wp_region_rel SpecB (by kernel_rfl) (lexB_of_fast (by kernel_rfl) (by kernel_rfl)) ?_
  repeat (first
    | (refine rel_arith (by rfl) rfl (by rfl) rfl rfl ?_; intro b1 H1; simp only [Act.put, List.setIfInBounds_toArray, List.set_cons_zero, List.set_cons_succ])
    | (refine rel_call (f := 38) (args := #[.agg #[.int .i64 _, .int .i64 _]]) (by rfl) rfl (callAt_func rfl Try.func38 (by kernel_rfl) (by kernel_rfl) rfl) (keeps_over (fun v h => h) fun x => place_walk _ _ _) ?_; rintro _ rfl; skip; simp only [Act.put, List.setIfInBounds_toArray, List.set_cons_zero, List.set_cons_succ])
    | (refine rel_plain (by rfl) rfl ?_; intro K hK; go_big_quiet_op; go_big_quiet_on)
    | (refine rel_skip (by rfl) ?_; simp only [Act.put, List.setIfInBounds_toArray, List.set_cons_zero, List.set_cons_succ]))
  refine Rel.wpRel_nil ?_
  intro w9 hB9 hG9
  clear c2 f2 c3 f3 c7 f7 c9 f9
  replace q2 := q2.below hB9
  replace q3 := q3.below hB9
  replace q7 := q7.below hB9
  replace q9 := q9.below hB9
  clear hG9
  replace HG : Hid (Below w.heap.size w w9) := Lib.hid (Grow.grow_trans HG.out hB9)
  replace HZ : w.heap.size ≤ w9.heap.size := Below.size HG.out
  clear hB9
  have c2 := q2.cell
  have f2 := q2.frozen
  have l2 := q2.lt
  have c3 := q3.cell
  have f3 := q3.frozen
  have l3 := q3.lt
  have c7 := q7.cell
  have f7 := q7.frozen
  have l7 := q7.lt
  have c9 := q9.cell
  have f9 := q9.frozen
  have l9 := q9.lt
  go_wp2
  go_ret
  exact Post.mk (T := fun v => v = _) (by simp) (by (repeat (with_reducible first | exact Grow.grow_refl _ | refine Grow.grow_setCell ?_ ?_ _ | refine Grow.grow_alloc ?_ _ | refine Grow.grow_drewN ?_ _ | refine Grow.grow_over ?_ _ | refine Grow.grow_via (by assumption) ?_)) <;> omega)

end Go.Proofs.Ytdnclgpjcgamgaa
