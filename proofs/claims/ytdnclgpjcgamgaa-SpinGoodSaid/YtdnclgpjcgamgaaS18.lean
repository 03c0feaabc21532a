/- The walks of rotations about an axis, of what matrices do to a vector. -/
import Derived.Test.YtdnclgpjcgamgaaS17
set_option linter.unusedSimpArgs false
set_option linter.unusedVariables false
namespace Go.Proofs.Ytdnclgpjcgamgaa
open Go.RowKit Go.Fl Go.Grow Go.Tr

/-- What the callees give. -/
def SpecA (d e f : Nat) : FuncId → Array Value → Value → Prop
  | 76, ⟨[.agg ⟨[.float .f64 a, .float .f64 b, .float .f64 c]⟩, _]⟩, v => IsF (dt ⟨fl a, fl b, fl c⟩ ⟨fl d, fl e, fl f⟩) v
  | _, _, _ => False
def SpecTn : FuncId → Array Value → Value → Prop
  | 30, ⟨[.agg ⟨[.float .f64 a, .float .f64 b, .float .f64 c, .float .f64 d]⟩]⟩, v => IsM (mat ⟨fl a, fl b, fl c, fl d⟩) v
  | 34, ⟨[.agg ⟨[.float .f64 m1, .float .f64 m2, .float .f64 m3, .float .f64 m4, .float .f64 m5, .float .f64 m6, .float .f64 m7, .float .f64 m8, .float .f64 m9]⟩, .agg ⟨[.float .f64 a, .float .f64 b, .float .f64 c]⟩]⟩, v => IsV (app ⟨⟨fl m1, fl m2, fl m3⟩, ⟨fl m4, fl m5, fl m6⟩, ⟨fl m7, fl m8, fl m9⟩⟩ ⟨fl a, fl b, fl c⟩) v
  | _, _, _ => False

set_option maxRecDepth 100000 in
set_option maxHeartbeats 4000000 in
theorem applyTo_walk (m1 m2 m3 m4 m5 m6 m7 m8 m9 a b c : Nat) (w : World) : Calls Try.prog 33 #[.agg #[.float .f64 m1, .float .f64 m2, .float .f64 m3, .float .f64 m4, .float .f64 m5, .float .f64 m6, .float .f64 m7, .float .f64 m8, .float .f64 m9], .agg #[.float .f64 a, .float .f64 b, .float .f64 c]] w (Post (IsV (app ⟨⟨fl m1, fl m2, fl m3⟩, ⟨fl m4, fl m5, fl m6⟩, ⟨fl m7, fl m8, fl m9⟩⟩ ⟨fl a, fl b, fl c⟩)) w) := by
  go_enter Try.func33, Try.ntmps33
  go_wp2
  refine Grow.seal_wp ?_
  intro W hW
  have HG : Hid (Below w.heap.size w W) := Lib.hid (by
    rw [hW.out]
    (repeat (with_reducible first
      | exact Grow.grow_refl _
      | refine Grow.grow_setCell ?_ ?_ _
      | refine Grow.grow_alloc ?_ _
      | refine Grow.grow_drewN ?_ _
      | refine Grow.grow_over ?_ _
      | refine Grow.grow_via (by assumption) ?_)) <;> omega)
  have HZ : w.heap.size ≤ W.heap.size := Below.size HG.out
  apply Grow.have_known (W := W)
  · rw [hW.out]
    exact ((Known.new _ _ _).alloc _).alloc _
  intro q2
  (try simp only [World.size_alloc] at q2)
  apply Grow.have_known (W := W)
  · rw [hW.out]
    exact (Known.new _ _ _).alloc _
  intro q3
  (try simp only [World.size_alloc] at q3)
  apply Grow.have_known (W := W)
  · rw [hW.out]
    exact Known.new _ _ _
  intro q4
  (try simp only [World.size_alloc] at q4)
  clear hW
  have c2 := q2.cell
  have f2 := q2.frozen
  have l2 := q2.lt
  have c3 := q3.cell
  have f3 := q3.frozen
  have l3 := q3.lt
  have c4 := q4.cell
  have f4 := q4.frozen
  have l4 := q4.lt
  refine Rel.wp_region_rel_tail SpecM 12 (by kernel_rfl) (lexTailB_of_fast (by kernel_rfl) (by kernel_rfl) (by kernel_rfl)) ?_
  simp only [List.append_eq, List.cons_append, List.nil_append, List.take_succ_cons, List.take_zero, List.drop_succ_cons, List.drop_zero]
  repeat (first
    | (refine rel_arith (by rfl) rfl (by rfl) rfl rfl ?_; intro b1 H1; simp only [Act.put, List.setIfInBounds_toArray, List.set_cons_zero, List.set_cons_succ])
    | (refine rel_call (f := 42) (args := #[.agg #[.float .f64 _, .float .f64 _, .float .f64 _], .agg #[.float .f64 _, .float .f64 _, .float .f64 _]]) (by rfl) rfl (callAt_func rfl Try.func42 (by kernel_rfl) (by kernel_rfl) rfl) (keeps_over (fun v h => h) fun x => dotOf_walk _ _ _ _ _ _ _) ?_; rintro _ ⟨b, rfl, hb⟩; have H := Lib.hid hb; clear hb; simp only [Act.put, List.setIfInBounds_toArray, List.set_cons_zero, List.set_cons_succ])
    | (refine rel_plain (by rfl) rfl ?_; intro K hK; go_big_quiet_op; go_big_quiet_on)
    | (refine rel_skip (by rfl) ?_; simp only [Act.put, List.setIfInBounds_toArray, List.set_cons_zero, List.set_cons_succ]))
  refine Rel.wpRel_nil ?_
  intro w9 hB9 hG9
  clear c2 f2 c3 f3 c4 f4
  replace q2 := q2.below hB9
  replace q3 := q3.below hB9
  replace q4 := q4.below hB9
  clear hG9
  replace HG : Hid (Below w.heap.size w w9) := Lib.hid (Grow.grow_trans HG.out hB9)
  replace HZ : w.heap.size ≤ w9.heap.size := Below.size HG.out
  clear hB9
  have c2 := q2.cell
  have f2 := q2.frozen
  have l2 := q2.lt
  have c3 := q3.cell
  have f3 := q3.frozen
  have l3 := q3.lt
  have c4 := q4.cell
  have f4 := q4.frozen
  have l4 := q4.lt
  go_wp2
  apply bodyPost_ret
  · simp [results, Try.results33, go_sem, *]; rfl
  · rfl
  · refine Post.mk ⟨_, _, _, rfl, ?_⟩ ?_
    · simp only [Hid, fop] at *
      simp only [app, *]
      exact ⟨trivial, trivial, trivial⟩
    · (repeat (with_reducible first
        | exact Grow.grow_refl _
        | refine Grow.grow_setCell ?_ ?_ _
        | refine Grow.grow_alloc ?_ _
        | refine Grow.grow_drewN ?_ _
        | refine Grow.grow_over ?_ _
        | refine Grow.grow_via (by assumption) ?_)) <;> omega

set_option maxRecDepth 100000 in
set_option maxHeartbeats 4000000 in
theorem row_walk (a b c d e f vb : Nat) (w : World) (q1 : Known w vb #[.float .f64 d, .float .f64 e, .float .f64 f]) : Calls Try.prog 76 #[.agg #[.float .f64 a, .float .f64 b, .float .f64 c], .pointer (some ⟨vb, 0, none⟩)] w (Post (IsF (dt ⟨fl a, fl b, fl c⟩ ⟨fl d, fl e, fl f⟩)) w) := by
  go_enter Try.func76, Try.ntmps76
  go_wp2
  refine Grow.seal_wp ?_
  intro W hW
  have HG : Hid (Below w.heap.size w W) := Lib.hid (by
    rw [hW.out]
    (repeat (with_reducible first
      | exact Grow.grow_refl _
      | refine Grow.grow_setCell ?_ ?_ _
      | refine Grow.grow_alloc ?_ _
      | refine Grow.grow_drewN ?_ _
      | refine Grow.grow_over ?_ _
      | refine Grow.grow_via (by assumption) ?_)) <;> omega)
  have HZ : w.heap.size ≤ W.heap.size := Below.size HG.out
  apply Grow.have_known (W := W)
  · rw [hW.out]
    exact Known.new _ _ _
  intro q2
  (try simp only [World.size_alloc] at q2)
  apply Grow.have_known (W := W)
  · rw [hW.out]; apply Known.at q1; (repeat (with_reducible first | exact q1 | apply Known.same | apply Known.other | apply Known.alloc | apply Known.drewN)) <;> omega
  clear q1
  intro q1
  clear hW
  have c2 := q2.cell
  have f2 := q2.frozen
  have l2 := q2.lt
  have c1 := q1.cell
  have f1 := q1.frozen
  have l1 := q1.lt
  refine Rel.wp_region_rel SpecM (by kernel_rfl) (lexB_of_fast (by kernel_rfl) (by kernel_rfl)) ?_
  repeat (first
    | (refine rel_arith (by rfl) rfl (by rfl) rfl rfl ?_; intro b1 H1; simp only [Act.put, List.setIfInBounds_toArray, List.set_cons_zero, List.set_cons_succ])
    | (refine rel_call (f := 55) (args := #[.float .f64 _, .float .f64 _, .float .f64 _]) (by rfl) rfl (callAt_func rfl Try.func55 (by kernel_rfl) (by kernel_rfl) rfl) (keepsD_over (fun v h => h) fun x => plus_walk _ _ _ _) ?_; rintro _ ⟨b, rfl, hb⟩; have H := Lib.hid hb; clear hb; simp only [Act.put, List.setIfInBounds_toArray, List.set_cons_zero, List.set_cons_succ])
    | (refine rel_plain (by rfl) rfl ?_; intro K hK; go_big_quiet_op; go_big_quiet_on)
    | (refine rel_skip (by rfl) ?_; simp only [Act.put, List.setIfInBounds_toArray, List.set_cons_zero, List.set_cons_succ]))
  refine Rel.wpRel_nil ?_
  intro w9 hB9 hG9
  clear c2 f2 c1 f1
  replace q2 := q2.below hB9
  replace q1 := q1.below hB9
  clear hG9
  replace HG : Hid (Below w.heap.size w w9) := Lib.hid (Grow.grow_trans HG.out hB9)
  replace HZ : w.heap.size ≤ w9.heap.size := Below.size HG.out
  clear hB9
  have c2 := q2.cell
  have f2 := q2.frozen
  have l2 := q2.lt
  have c1 := q1.cell
  have f1 := q1.frozen
  have l1 := q1.lt
  go_wp2
  go_ret
  refine Post.mk ⟨_, rfl, ?_⟩ ?_
  · simp only [Hid, fop] at *
    simp only [dt, pls, *]
  · (repeat (with_reducible first
      | exact Grow.grow_refl _
      | refine Grow.grow_setCell ?_ ?_ _
      | refine Grow.grow_alloc ?_ _
      | refine Grow.grow_drewN ?_ _
      | refine Grow.grow_over ?_ _
      | refine Grow.grow_via (by assumption) ?_)) <;> omega

set_option maxRecDepth 100000 in
set_option maxHeartbeats 4000000 in
theorem apply_walk (m1 m2 m3 m4 m5 m6 m7 m8 m9 a b c : Nat) (w : World) : Calls Try.prog 34 #[.agg #[.float .f64 m1, .float .f64 m2, .float .f64 m3, .float .f64 m4, .float .f64 m5, .float .f64 m6, .float .f64 m7, .float .f64 m8, .float .f64 m9], .agg #[.float .f64 a, .float .f64 b, .float .f64 c]] w (Post (IsV (app ⟨⟨fl m1, fl m2, fl m3⟩, ⟨fl m4, fl m5, fl m6⟩, ⟨fl m7, fl m8, fl m9⟩⟩ ⟨fl a, fl b, fl c⟩)) w) := by
  go_enter Try.func34, Try.ntmps34
  go_wp2
  refine Grow.seal_wp ?_
  intro W hW
  have HG : Hid (Below w.heap.size w W) := Lib.hid (by
    rw [hW.out]
    (repeat (with_reducible first
      | exact Grow.grow_refl _
      | refine Grow.grow_setCell ?_ ?_ _
      | refine Grow.grow_alloc ?_ _
      | refine Grow.grow_drewN ?_ _
      | refine Grow.grow_over ?_ _
      | refine Grow.grow_via (by assumption) ?_)) <;> omega)
  have HZ : w.heap.size ≤ W.heap.size := Below.size HG.out
  apply Grow.have_known (W := W)
  · rw [hW.out]
    exact ((Known.new _ _ _).alloc _).alloc _
  intro q2
  (try simp only [World.size_alloc] at q2)
  apply Grow.have_known (W := W)
  · rw [hW.out]
    exact (Known.new _ _ _).alloc _
  intro q3
  (try simp only [World.size_alloc] at q3)
  apply Grow.have_known (W := W)
  · rw [hW.out]
    exact Known.new _ _ _
  intro q4
  (try simp only [World.size_alloc] at q4)
  clear hW
  have c2 := q2.cell
  have f2 := q2.frozen
  have l2 := q2.lt
  have c3 := q3.cell
  have f3 := q3.frozen
  have l3 := q3.lt
  have c4 := q4.cell
  have f4 := q4.frozen
  have l4 := q4.lt
  refine Rel.wp_region_rel_tail (SpecA a b c) 12 (by kernel_rfl) (lexTailB_of_fast (by kernel_rfl) (by kernel_rfl) (by kernel_rfl)) ?_
  simp only [List.append_eq, List.cons_append, List.nil_append, List.take_succ_cons, List.take_zero, List.drop_succ_cons, List.drop_zero]
  repeat (first
    | (refine rel_arith (by rfl) rfl (by rfl) rfl rfl ?_; intro b1 H1; simp only [Act.put, List.setIfInBounds_toArray, List.set_cons_zero, List.set_cons_succ])
    | (refine rel_call (f := 76) (args := #[.agg #[.float .f64 _, .float .f64 _, .float .f64 _], .pointer (some ⟨_, _, _⟩)]) (by rfl) rfl (callAt_value (captured := [_]) rfl rfl Try.func76 (by kernel_rfl) (by kernel_rfl) rfl) (keeps_in (fun v h => h) fun x => row_walk _ _ _ _ _ _ _ _ (q3.below (below_over _ _))) ?_; rintro _ ⟨b, rfl, hb⟩; have H := Lib.hid hb; clear hb; simp only [Act.put, List.setIfInBounds_toArray, List.set_cons_zero, List.set_cons_succ])
    | (refine rel_plain (by rfl) rfl ?_; intro K hK; go_big_quiet_op; go_big_quiet_on)
    | (refine rel_skip (by rfl) ?_; simp only [Act.put, List.setIfInBounds_toArray, List.set_cons_zero, List.set_cons_succ]))
  refine Rel.wpRel_nil ?_
  intro w9 hB9 hG9
  clear c2 f2 c3 f3 c4 f4
  replace q2 := q2.below hB9
  replace q3 := q3.below hB9
  replace q4 := q4.below hB9
  clear hG9
  replace HG : Hid (Below w.heap.size w w9) := Lib.hid (Grow.grow_trans HG.out hB9)
  replace HZ : w.heap.size ≤ w9.heap.size := Below.size HG.out
  clear hB9
  have c2 := q2.cell
  have f2 := q2.frozen
  have l2 := q2.lt
  have c3 := q3.cell
  have f3 := q3.frozen
  have l3 := q3.lt
  have c4 := q4.cell
  have f4 := q4.frozen
  have l4 := q4.lt
  go_wp2
  apply bodyPost_ret
  · simp [results, Try.results34, go_sem, *]; rfl
  · rfl
  · refine Post.mk ⟨_, _, _, rfl, ?_⟩ ?_
    · simp only [Hid, fop] at *
      simp only [app, *]
      exact ⟨trivial, trivial, trivial⟩
    · (repeat (with_reducible first
        | exact Grow.grow_refl _
        | refine Grow.grow_setCell ?_ ?_ _
        | refine Grow.grow_alloc ?_ _
        | refine Grow.grow_drewN ?_ _
        | refine Grow.grow_over ?_ _
        | refine Grow.grow_via (by assumption) ?_)) <;> omega

set_option maxRecDepth 100000 in
set_option maxHeartbeats 4000000 in
theorem turned_walk (m1 m2 m3 m4 m5 m6 m7 m8 m9 : Nat) (w : World) : Calls Try.prog 36 #[.agg #[.float .f64 m1, .float .f64 m2, .float .f64 m3, .float .f64 m4, .float .f64 m5, .float .f64 m6, .float .f64 m7, .float .f64 m8, .float .f64 m9]] w (Post (fun v => v = .agg #[.float .f64 m1, .float .f64 m4, .float .f64 m7, .float .f64 m2, .float .f64 m5, .float .f64 m8, .float .f64 m3, .float .f64 m6, .float .f64 m9]) w) := by
  go_enter Try.func36, Try.ntmps36
  go_wp2
  apply bodyPost_ret
  · simp [results, Try.results36, go_sem]; rfl
  · rfl
  · refine Post.mk (T := fun v => v = _) rfl ?_
    (repeat (with_reducible first
      | exact Grow.grow_refl _
      | refine Grow.grow_setCell ?_ ?_ _
      | refine Grow.grow_alloc ?_ _
      | refine Grow.grow_drewN ?_ _
      | refine Grow.grow_over ?_ _
      | refine Grow.grow_via (by assumption) ?_)) <;> omega
set_option maxRecDepth 100000 in
set_option maxHeartbeats 4000000 in
theorem lmatrix_walk (m1 m2 m3 m4 m5 m6 m7 m8 m9 : Nat) (w : World) : Calls Try.prog 35 #[.agg #[.float .f64 m1, .float .f64 m2, .float .f64 m3, .float .f64 m4, .float .f64 m5, .float .f64 m6, .float .f64 m7, .float .f64 m8, .float .f64 m9]] w (Post (fun v => v = .agg #[.float .f64 m1, .float .f64 m2, .float .f64 m3, .float .f64 m4, .float .f64 m5, .float .f64 m6, .float .f64 m7, .float .f64 m8, .float .f64 m9]) w) := by
  go_enter Try.func35, Try.ntmps35
  go_wp2
  apply bodyPost_ret
  · simp [results, Try.results35, go_sem]; rfl
  · rfl
  · refine Post.mk (T := fun v => v = _) rfl ?_
    (repeat (with_reducible first
      | exact Grow.grow_refl _
      | refine Grow.grow_setCell ?_ ?_ _
      | refine Grow.grow_alloc ?_ _
      | refine Grow.grow_drewN ?_ _
      | refine Grow.grow_over ?_ _
      | refine Grow.grow_via (by assumption) ?_)) <;> omega

set_option maxRecDepth 100000 in
set_option maxHeartbeats 4000000 in
theorem turn_walk (e f g h a b c : Nat) (w : World) : Calls Try.prog 32 #[.agg #[.float .f64 e, .float .f64 f, .float .f64 g, .float .f64 h], .agg #[.float .f64 a, .float .f64 b, .float .f64 c]] w (Post (IsV (app (mat ⟨fl e, fl f, fl g, fl h⟩) ⟨fl a, fl b, fl c⟩)) w) := by
  go_enter Try.func32, Try.ntmps32
  go_wp2
  refine Grow.seal_wp ?_
  intro W hW
  have HG : Hid (Below w.heap.size w W) := Lib.hid (by
    rw [hW.out]
    (repeat (with_reducible first
      | exact Grow.grow_refl _
      | refine Grow.grow_setCell ?_ ?_ _
      | refine Grow.grow_alloc ?_ _
      | refine Grow.grow_drewN ?_ _
      | refine Grow.grow_over ?_ _
      | refine Grow.grow_via (by assumption) ?_)) <;> omega)
  have HZ : w.heap.size ≤ W.heap.size := Below.size HG.out
  apply Grow.have_known (W := W)
  · rw [hW.out]
    exact ((Known.new _ _ _).alloc _).alloc _
  intro q2
  (try simp only [World.size_alloc] at q2)
  apply Grow.have_known (W := W)
  · rw [hW.out]
    exact (Known.new _ _ _).alloc _
  intro q3
  (try simp only [World.size_alloc] at q3)
  apply Grow.have_known (W := W)
  · rw [hW.out]
    exact Known.new _ _ _
  intro q4
  (try simp only [World.size_alloc] at q4)
  clear hW
  have c2 := q2.cell
  have f2 := q2.frozen
  have l2 := q2.lt
  have c3 := q3.cell
  have f3 := q3.frozen
  have l3 := q3.lt
  have c4 := q4.cell
  have f4 := q4.frozen
  have l4 := q4.lt
  refine Rel.wp_region_rel_tail SpecTn 4 (by kernel_rfl) (lexTailB_of_fast (by kernel_rfl) (by kernel_rfl) (by kernel_rfl)) ?_
  simp only [List.append_eq, List.cons_append, List.nil_append, List.take_succ_cons, List.take_zero, List.drop_succ_cons, List.drop_zero]
  repeat (first
    | (refine rel_arith (by rfl) rfl (by rfl) rfl rfl ?_; intro b1 H1; simp only [Act.put, List.setIfInBounds_toArray, List.set_cons_zero, List.set_cons_succ])
    | (refine rel_call (f := 30) (args := #[.agg #[.float .f64 _, .float .f64 _, .float .f64 _, .float .f64 _]]) (by rfl) rfl (callAt_func rfl Try.func30 (by kernel_rfl) (by kernel_rfl) rfl) (keeps_over (fun v h => h) fun x => matrix_walk _ _ _ _ _) ?_; rintro _ ⟨b1, b2, b3, b4, b5, b6, b7, b8, b9, rfl, g1, g2, g3, g4, g5, g6, g7, g8, g9⟩; have G1 := Lib.hid g1; have G2 := Lib.hid g2; have G3 := Lib.hid g3; have G4 := Lib.hid g4; have G5 := Lib.hid g5; have G6 := Lib.hid g6; have G7 := Lib.hid g7; have G8 := Lib.hid g8; have G9 := Lib.hid g9; clear g1 g2 g3 g4 g5 g6 g7 g8 g9; simp only [Act.put, List.setIfInBounds_toArray, List.set_cons_zero, List.set_cons_succ])
    | (refine rel_call (f := 34) (args := #[.agg #[.float .f64 _, .float .f64 _, .float .f64 _, .float .f64 _, .float .f64 _, .float .f64 _, .float .f64 _, .float .f64 _, .float .f64 _], .agg #[.float .f64 _, .float .f64 _, .float .f64 _]]) (by rfl) rfl (callAt_func rfl Try.func34 (by kernel_rfl) (by kernel_rfl) rfl) (keeps_over (fun v h => h) fun x => apply_walk _ _ _ _ _ _ _ _ _ _ _ _ _) ?_; rintro _ ⟨b1, b2, b3, rfl, g1, g2, g3⟩; have G1 := Lib.hid g1; have G2 := Lib.hid g2; have G3 := Lib.hid g3; clear g1 g2 g3; simp only [Act.put, List.setIfInBounds_toArray, List.set_cons_zero, List.set_cons_succ])
    | (refine rel_plain (by rfl) rfl ?_; intro K hK; go_big_quiet_op; go_big_quiet_on)
    | (refine rel_skip (by rfl) ?_; simp only [Act.put, List.setIfInBounds_toArray, List.set_cons_zero, List.set_cons_succ]))
  refine Rel.wpRel_nil ?_
  intro w9 hB9 hG9
  clear c2 f2 c3 f3 c4 f4
  replace q2 := q2.below hB9
  replace q3 := q3.below hB9
  replace q4 := q4.below hB9
  clear hG9
  replace HG : Hid (Below w.heap.size w w9) := Lib.hid (Grow.grow_trans HG.out hB9)
  replace HZ : w.heap.size ≤ w9.heap.size := Below.size HG.out
  clear hB9
  have c2 := q2.cell
  have f2 := q2.frozen
  have l2 := q2.lt
  have c3 := q3.cell
  have f3 := q3.frozen
  have l3 := q3.lt
  have c4 := q4.cell
  have f4 := q4.frozen
  have l4 := q4.lt
  go_wp2
  apply bodyPost_ret
  · simp [results, Try.results32, go_sem, *]; rfl
  · rfl
  · refine Post.mk ⟨_, _, _, rfl, ?_⟩ ?_
    · simp only [Hid, fop] at *
      simp only [app, *]
      exact ⟨trivial, trivial, trivial⟩
    · (repeat (with_reducible first
        | exact Grow.grow_refl _
        | refine Grow.grow_setCell ?_ ?_ _
        | refine Grow.grow_alloc ?_ _
        | refine Grow.grow_drewN ?_ _
        | refine Grow.grow_over ?_ _
        | refine Grow.grow_via (by assumption) ?_)) <;> omega

set_option maxRecDepth 100000 in
set_option maxHeartbeats 4000000 in
theorem about_walk (a b c : Nat) (half : Int) (w : World) : Calls Try.prog 28 #[.agg #[.float .f64 a, .float .f64 b, .float .f64 c], .int .i64 half] w (Post (IsU (abt ⟨fl a, fl b, fl c⟩ half)) w) := by
  cases h0 : feq (vlen ⟨fl a, fl b, fl c⟩) (some 0) <;> cases hf : fin (vlen ⟨fl a, fl b, fl c⟩)
  · have H0 := Lib.hid h0
    have HF := Lib.hid hf
    clear h0 hf
    have HU : Hid (abt ⟨fl a, fl b, fl c⟩ half = _) := Lib.hid (by unfold abt; rw [H0.out, HF.out])
    have s0 := trivial
    go_enter Try.func28, Try.ntmps28
    go_wp2_with (first
        | (refine wpList_arith rfl rfl (by rfl) rfl rfl ?_; intro b1 n1 H1)
        | (clear s0
           go_at_call 63
           refine Grow.seal_calls ?_
           intro W hW
           have HG : Hid (Below w.heap.size w W) := Lib.hid (by rw [hW.out]; (repeat (with_reducible first | exact Grow.grow_refl _ | refine Grow.grow_setCell ?_ ?_ _ | refine Grow.grow_alloc ?_ _ | refine Grow.grow_drewN ?_ _ | refine Grow.grow_over ?_ _ | refine Grow.grow_via (by assumption) ?_)) <;> omega)
           have HZ : w.heap.size ≤ W.heap.size := Below.size HG.out
           apply Grow.have_known (W := W)
           · rw [hW.out]; exact (Known.new _ _ _).alloc _
           intro q2
           (try simp only [World.size_alloc] at q2)
           apply Grow.have_known (W := W)
           · rw [hW.out]; exact Known.new _ _ _
           intro q4
           (try simp only [World.size_alloc] at q4)
           clear hW
           refine (length_walk _ _ _ _).mono ?_
           rintro e w1 hp
           obtain ⟨v, rfl, hp, hB⟩ := hp
           obtain ⟨n, rfl, hn⟩ := hp
           have E0 := (order_zero n).trans ((congrArg (fun X => feq X (some 0)) hn).trans H0.out); have HN := Lib.hid hn; clear hn
           replace q2 := q2.below hB
           replace q4 := q4.below hB
           replace HG : Hid (Below w.heap.size w w1) := Lib.hid (Grow.grow_trans HG.out hB)
           replace HZ : w.heap.size ≤ w1.heap.size := Below.size HG.out
           clear hB
           have c2 := q2.cell; have f2 := q2.frozen; have l2 := q2.lt
           have c4 := q4.cell; have f4 := q4.frozen; have l4 := q4.lt
           have s1 := trivial)
        | (go_at_call 61; refine (finite_walk _ _).mono ?_; rintro e w2 ⟨v, rfl, hv, n2, rfl⟩; rw [HN.out, HF.out] at hv; subst hv))
    apply bodyPost_ret
    · simp [results, Try.results28, go_sem, *]; rfl
    · rfl
    · have hu := HU.out
      simp only [Bool.or_self, Bool.not_true, Bool.not_false, Bool.or_true, Bool.or_false, if_true, Bool.false_eq_true, if_false] at hu
      refine Post.mk (T := IsU _) ?_ ?_
      · rw [hu]
        exact ⟨_, ⟨_, _, _, _, rfl, fl_one, fl_zero, fl_zero, fl_zero⟩, rfl⟩
      · (repeat (with_reducible first
            | exact Grow.grow_refl _
            | refine Grow.grow_setCell ?_ ?_ _
            | refine Grow.grow_alloc ?_ _
            | refine Grow.grow_drewN ?_ _
            | refine Grow.grow_over ?_ _
            | refine Grow.grow_via (by assumption) ?_)) <;> omega
  · have H0 := Lib.hid h0
    have HF := Lib.hid hf
    clear h0 hf
    have HU : Hid (abt ⟨fl a, fl b, fl c⟩ half = _) := Lib.hid (by unfold abt; rw [H0.out, HF.out])
    have s0 := trivial
    go_enter Try.func28, Try.ntmps28
    go_wp2_with (first
        | (refine wpList_arith rfl rfl (by rfl) rfl rfl ?_; intro b1 n1 H1)
        | (clear s0
           go_at_call 63
           refine Grow.seal_calls ?_
           intro W hW
           have HG : Hid (Below w.heap.size w W) := Lib.hid (by rw [hW.out]; (repeat (with_reducible first | exact Grow.grow_refl _ | refine Grow.grow_setCell ?_ ?_ _ | refine Grow.grow_alloc ?_ _ | refine Grow.grow_drewN ?_ _ | refine Grow.grow_over ?_ _ | refine Grow.grow_via (by assumption) ?_)) <;> omega)
           have HZ : w.heap.size ≤ W.heap.size := Below.size HG.out
           apply Grow.have_known (W := W)
           · rw [hW.out]; exact (Known.new _ _ _).alloc _
           intro q2
           (try simp only [World.size_alloc] at q2)
           apply Grow.have_known (W := W)
           · rw [hW.out]; exact Known.new _ _ _
           intro q4
           (try simp only [World.size_alloc] at q4)
           clear hW
           refine (length_walk _ _ _ _).mono ?_
           rintro e w1 hp
           obtain ⟨v, rfl, hp, hB⟩ := hp
           obtain ⟨n, rfl, hn⟩ := hp
           have E0 := (order_zero n).trans ((congrArg (fun X => feq X (some 0)) hn).trans H0.out); have HN := Lib.hid hn; clear hn
           replace q2 := q2.below hB
           replace q4 := q4.below hB
           replace HG : Hid (Below w.heap.size w w1) := Lib.hid (Grow.grow_trans HG.out hB)
           replace HZ : w.heap.size ≤ w1.heap.size := Below.size HG.out
           clear hB
           have c2 := q2.cell; have f2 := q2.frozen; have l2 := q2.lt
           have c4 := q4.cell; have f4 := q4.frozen; have l4 := q4.lt
           have s1 := trivial)
        | (go_at_call 61; refine (finite_walk _ _).mono ?_; rintro e w2 ⟨v, rfl, hv, n2, rfl⟩; rw [HN.out, HF.out] at hv; subst hv)
        | (clear s1
           go_at_call 71
           refine Grow.seal_calls ?_
           intro W hW
           have HG2 : Hid (Below w.heap.size w W) := Lib.hid (by rw [hW.out]; (repeat (with_reducible first | exact Grow.grow_refl _ | refine Grow.grow_setCell ?_ ?_ _ | refine Grow.grow_alloc ?_ _ | refine Grow.grow_drewN ?_ _ | refine Grow.grow_over ?_ _ | refine Grow.grow_via (by assumption) ?_)) <;> omega)
           clear HG
           have HG := HG2
           clear HG2
           clear c2 f2 c4 f4
           apply Grow.have_known (W := W)
           · rw [hW.out]; apply Known.at q2; (repeat (with_reducible first | exact q2 | apply Known.same | apply Known.other | apply Known.alloc | apply Known.drewN)) <;> omega
           clear q2
           intro q2
           (try simp only [List.setIfInBounds_toArray, List.set_cons_zero, List.set_cons_succ] at q2)
           apply Grow.have_known (W := W)
           · rw [hW.out]; apply Known.at q4; (repeat (with_reducible first | exact q4 | apply Known.same | apply Known.other | apply Known.alloc | apply Known.drewN)) <;> omega
           clear q4
           intro q4
           (try simp only [List.setIfInBounds_toArray, List.set_cons_zero, List.set_cons_succ] at q4)
           replace HZ : w.heap.size ≤ W.heap.size := Below.size HG.out
           clear hW
           refine (sin_walk _ _).mono ?_
           rintro e w1 hp
           obtain ⟨v, rfl, hp, hB⟩ := hp
           obtain ⟨b, rfl, hb⟩ := hp
           have H := Lib.hid hb; clear hb
           replace q2 := q2.below hB
           replace q4 := q4.below hB
           replace HG : Hid (Below w.heap.size w w1) := Lib.hid (Grow.grow_trans HG.out hB)
           replace HZ : w.heap.size ≤ w1.heap.size := Below.size HG.out
           clear hB
           have c2 := q2.cell; have f2 := q2.frozen; have l2 := q2.lt
           have c4 := q4.cell; have f4 := q4.frozen; have l4 := q4.lt
           have s3 := trivial))
    refine Rel.wp_region_rel_tail SpecM 20 (by kernel_rfl) (lexTailB_of_fast (by kernel_rfl) (by kernel_rfl) (by kernel_rfl)) ?_
    simp only [List.append_eq, List.cons_append, List.nil_append, List.take_succ_cons, List.take_zero, List.drop_succ_cons, List.drop_zero]
    repeat (first
      | (refine rel_arith (by rfl) rfl (by rfl) rfl rfl ?_; intro b1 H1; simp only [Act.put, List.setIfInBounds_toArray, List.set_cons_zero, List.set_cons_succ])
      | (refine rel_call (f := 72) (args := #[.int .i64 _]) (by rfl) rfl (callAt_func rfl Try.func72 (by kernel_rfl) (by kernel_rfl) rfl) (keeps_over (fun v h => h) fun x => cos_walk _ _) ?_; rintro _ ⟨b, rfl, hb⟩; have H := Lib.hid hb; clear hb; simp only [Act.put, List.setIfInBounds_toArray, List.set_cons_zero, List.set_cons_succ])
      | (refine rel_plain (by rfl) rfl ?_; intro K hK; go_big_quiet_op; go_big_quiet_on)
      | (refine rel_skip (by rfl) ?_; simp only [Act.put, List.setIfInBounds_toArray, List.set_cons_zero, List.set_cons_succ]))
    refine Rel.wpRel_nil ?_
    intro w9 hB9 hG9
    clear c2 f2 c4 f4
    replace q2 := q2.below hB9
    replace q4 := q4.below hB9
    clear hG9
    replace HG : Hid (Below w.heap.size w w9) := Lib.hid (Grow.grow_trans HG.out hB9)
    replace HZ : w.heap.size ≤ w9.heap.size := Below.size HG.out
    clear hB9
    have c2 := q2.cell
    have f2 := q2.frozen
    have l2 := q2.lt
    have c4 := q4.cell
    have f4 := q4.frozen
    have l4 := q4.lt
    go_wp2
    apply bodyPost_ret
    · simp [results, Try.results28, go_sem, *]; rfl
    · rfl
    · have hu := HU.out
      simp only [Bool.or_self, Bool.not_true, Bool.not_false, Bool.or_true, Bool.or_false, if_true, Bool.false_eq_true, if_false] at hu
      refine Post.mk (T := IsU _) ?_ ?_
      · rw [hu]
        refine ⟨_, ⟨_, _, _, _, rfl, ?_⟩, rfl⟩
        simp only [Hid, fop] at *
        simp only [*]
        exact ⟨trivial, trivial, trivial, trivial⟩
      · (repeat (with_reducible first
            | exact Grow.grow_refl _
            | refine Grow.grow_setCell ?_ ?_ _
            | refine Grow.grow_alloc ?_ _
            | refine Grow.grow_drewN ?_ _
            | refine Grow.grow_over ?_ _
            | refine Grow.grow_via (by assumption) ?_)) <;> omega
  · have H0 := Lib.hid h0
    have HF := Lib.hid hf
    clear h0 hf
    have HU : Hid (abt ⟨fl a, fl b, fl c⟩ half = _) := Lib.hid (by unfold abt; rw [H0.out, HF.out])
    have s0 := trivial
    go_enter Try.func28, Try.ntmps28
    go_wp2_with (first
        | (refine wpList_arith rfl rfl (by rfl) rfl rfl ?_; intro b1 n1 H1)
        | (clear s0
           go_at_call 63
           refine Grow.seal_calls ?_
           intro W hW
           have HG : Hid (Below w.heap.size w W) := Lib.hid (by rw [hW.out]; (repeat (with_reducible first | exact Grow.grow_refl _ | refine Grow.grow_setCell ?_ ?_ _ | refine Grow.grow_alloc ?_ _ | refine Grow.grow_drewN ?_ _ | refine Grow.grow_over ?_ _ | refine Grow.grow_via (by assumption) ?_)) <;> omega)
           have HZ : w.heap.size ≤ W.heap.size := Below.size HG.out
           apply Grow.have_known (W := W)
           · rw [hW.out]; exact (Known.new _ _ _).alloc _
           intro q2
           (try simp only [World.size_alloc] at q2)
           apply Grow.have_known (W := W)
           · rw [hW.out]; exact Known.new _ _ _
           intro q4
           (try simp only [World.size_alloc] at q4)
           clear hW
           refine (length_walk _ _ _ _).mono ?_
           rintro e w1 hp
           obtain ⟨v, rfl, hp, hB⟩ := hp
           obtain ⟨n, rfl, hn⟩ := hp
           have E0 := (order_zero n).trans ((congrArg (fun X => feq X (some 0)) hn).trans H0.out); have HN := Lib.hid hn; clear hn
           replace q2 := q2.below hB
           replace q4 := q4.below hB
           replace HG : Hid (Below w.heap.size w w1) := Lib.hid (Grow.grow_trans HG.out hB)
           replace HZ : w.heap.size ≤ w1.heap.size := Below.size HG.out
           clear hB
           have c2 := q2.cell; have f2 := q2.frozen; have l2 := q2.lt
           have c4 := q4.cell; have f4 := q4.frozen; have l4 := q4.lt
           have s1 := trivial)
        | (go_at_call 61; refine (finite_walk _ _).mono ?_; rintro e w2 ⟨v, rfl, hv, n2, rfl⟩; rw [HN.out, HF.out] at hv; subst hv))
    apply bodyPost_ret
    · simp [results, Try.results28, go_sem, *]; rfl
    · rfl
    · have hu := HU.out
      simp only [Bool.or_self, Bool.not_true, Bool.not_false, Bool.or_true, Bool.or_false, if_true, Bool.false_eq_true, if_false] at hu
      refine Post.mk (T := IsU _) ?_ ?_
      · rw [hu]
        exact ⟨_, ⟨_, _, _, _, rfl, fl_one, fl_zero, fl_zero, fl_zero⟩, rfl⟩
      · (repeat (with_reducible first
            | exact Grow.grow_refl _
            | refine Grow.grow_setCell ?_ ?_ _
            | refine Grow.grow_alloc ?_ _
            | refine Grow.grow_drewN ?_ _
            | refine Grow.grow_over ?_ _
            | refine Grow.grow_via (by assumption) ?_)) <;> omega
  · have H0 := Lib.hid h0
    have HF := Lib.hid hf
    clear h0 hf
    have HU : Hid (abt ⟨fl a, fl b, fl c⟩ half = _) := Lib.hid (by unfold abt; rw [H0.out, HF.out])
    have s0 := trivial
    go_enter Try.func28, Try.ntmps28
    go_wp2_with (first
        | (refine wpList_arith rfl rfl (by rfl) rfl rfl ?_; intro b1 n1 H1)
        | (clear s0
           go_at_call 63
           refine Grow.seal_calls ?_
           intro W hW
           have HG : Hid (Below w.heap.size w W) := Lib.hid (by rw [hW.out]; (repeat (with_reducible first | exact Grow.grow_refl _ | refine Grow.grow_setCell ?_ ?_ _ | refine Grow.grow_alloc ?_ _ | refine Grow.grow_drewN ?_ _ | refine Grow.grow_over ?_ _ | refine Grow.grow_via (by assumption) ?_)) <;> omega)
           have HZ : w.heap.size ≤ W.heap.size := Below.size HG.out
           apply Grow.have_known (W := W)
           · rw [hW.out]; exact (Known.new _ _ _).alloc _
           intro q2
           (try simp only [World.size_alloc] at q2)
           apply Grow.have_known (W := W)
           · rw [hW.out]; exact Known.new _ _ _
           intro q4
           (try simp only [World.size_alloc] at q4)
           clear hW
           refine (length_walk _ _ _ _).mono ?_
           rintro e w1 hp
           obtain ⟨v, rfl, hp, hB⟩ := hp
           obtain ⟨n, rfl, hn⟩ := hp
           have E0 := (order_zero n).trans ((congrArg (fun X => feq X (some 0)) hn).trans H0.out); have HN := Lib.hid hn; clear hn
           replace q2 := q2.below hB
           replace q4 := q4.below hB
           replace HG : Hid (Below w.heap.size w w1) := Lib.hid (Grow.grow_trans HG.out hB)
           replace HZ : w.heap.size ≤ w1.heap.size := Below.size HG.out
           clear hB
           have c2 := q2.cell; have f2 := q2.frozen; have l2 := q2.lt
           have c4 := q4.cell; have f4 := q4.frozen; have l4 := q4.lt
           have s1 := trivial)
        | (go_at_call 61; refine (finite_walk _ _).mono ?_; rintro e w2 ⟨v, rfl, hv, n2, rfl⟩; rw [HN.out, HF.out] at hv; subst hv))
    apply bodyPost_ret
    · simp [results, Try.results28, go_sem, *]; rfl
    · rfl
    · have hu := HU.out
      simp only [Bool.or_self, Bool.not_true, Bool.not_false, Bool.or_true, Bool.or_false, if_true, Bool.false_eq_true, if_false] at hu
      refine Post.mk (T := IsU _) ?_ ?_
      · rw [hu]
        exact ⟨_, ⟨_, _, _, _, rfl, fl_one, fl_zero, fl_zero, fl_zero⟩, rfl⟩
      · (repeat (with_reducible first
            | exact Grow.grow_refl _
            | refine Grow.grow_setCell ?_ ?_ _
            | refine Grow.grow_alloc ?_ _
            | refine Grow.grow_drewN ?_ _
            | refine Grow.grow_over ?_ _
            | refine Grow.grow_via (by assumption) ?_)) <;> omega

set_option maxRecDepth 100000 in
set_option maxHeartbeats 4000000 in
theorem aboutOf_walk (a b c : Nat) (half : Int) (w : World) : Calls Try.prog 29 #[.agg #[.float .f64 a, .float .f64 b, .float .f64 c], .int .i64 half] w (Post (IsU (abt ⟨fl a, fl b, fl c⟩ half)) w) := by
  cases h0 : feq (vlen ⟨fl a, fl b, fl c⟩) (some 0) <;> cases hf : fin (vlen ⟨fl a, fl b, fl c⟩)
  · have H0 := Lib.hid h0
    have HF := Lib.hid hf
    clear h0 hf
    have HU : Hid (abt ⟨fl a, fl b, fl c⟩ half = _) := Lib.hid (by unfold abt; rw [H0.out, HF.out])
    have s0 := trivial
    go_enter Try.func29, Try.ntmps29
    go_wp2_with (first
        | (refine wpList_arith rfl rfl (by rfl) rfl rfl ?_; intro b1 n1 H1)
        | (clear s0
           go_at_call 44
           refine Grow.seal_calls ?_
           intro W hW
           have HG : Hid (Below w.heap.size w W) := Lib.hid (by rw [hW.out]; (repeat (with_reducible first | exact Grow.grow_refl _ | refine Grow.grow_setCell ?_ ?_ _ | refine Grow.grow_alloc ?_ _ | refine Grow.grow_drewN ?_ _ | refine Grow.grow_over ?_ _ | refine Grow.grow_via (by assumption) ?_)) <;> omega)
           have HZ : w.heap.size ≤ W.heap.size := Below.size HG.out
           apply Grow.have_known (W := W)
           · rw [hW.out]; exact (Known.new _ _ _).alloc _
           intro q2
           (try simp only [World.size_alloc] at q2)
           apply Grow.have_known (W := W)
           · rw [hW.out]; exact Known.new _ _ _
           intro q4
           (try simp only [World.size_alloc] at q4)
           clear hW
           refine (lengthOf_walk _ _ _ _).mono ?_
           rintro e w1 hp
           obtain ⟨v, rfl, hp, hB⟩ := hp
           obtain ⟨n, rfl, hn⟩ := hp
           have E0 := (order_zero n).trans ((congrArg (fun X => feq X (some 0)) hn).trans H0.out); have HN := Lib.hid hn; clear hn
           replace q2 := q2.below hB
           replace q4 := q4.below hB
           replace HG : Hid (Below w.heap.size w w1) := Lib.hid (Grow.grow_trans HG.out hB)
           replace HZ : w.heap.size ≤ w1.heap.size := Below.size HG.out
           clear hB
           have c2 := q2.cell; have f2 := q2.frozen; have l2 := q2.lt
           have c4 := q4.cell; have f4 := q4.frozen; have l4 := q4.lt
           have s1 := trivial)
        | (go_at_call 62; refine (finiteRef_walk _ _).mono ?_; rintro e w2 ⟨v, rfl, hv, n2, rfl⟩; rw [HN.out, HF.out] at hv; subst hv))
    apply bodyPost_ret
    · simp [results, Try.results29, go_sem, *]; rfl
    · rfl
    · have hu := HU.out
      simp only [Bool.or_self, Bool.not_true, Bool.not_false, Bool.or_true, Bool.or_false, if_true, Bool.false_eq_true, if_false] at hu
      refine Post.mk (T := IsU _) ?_ ?_
      · rw [hu]
        exact ⟨_, ⟨_, _, _, _, rfl, fl_one, fl_zero, fl_zero, fl_zero⟩, rfl⟩
      · (repeat (with_reducible first
            | exact Grow.grow_refl _
            | refine Grow.grow_setCell ?_ ?_ _
            | refine Grow.grow_alloc ?_ _
            | refine Grow.grow_drewN ?_ _
            | refine Grow.grow_over ?_ _
            | refine Grow.grow_via (by assumption) ?_)) <;> omega
  · have H0 := Lib.hid h0
    have HF := Lib.hid hf
    clear h0 hf
    have HU : Hid (abt ⟨fl a, fl b, fl c⟩ half = _) := Lib.hid (by unfold abt; rw [H0.out, HF.out])
    have s0 := trivial
    go_enter Try.func29, Try.ntmps29
    go_wp2_with (first
        | (refine wpList_arith rfl rfl (by rfl) rfl rfl ?_; intro b1 n1 H1)
        | (clear s0
           go_at_call 44
           refine Grow.seal_calls ?_
           intro W hW
           have HG : Hid (Below w.heap.size w W) := Lib.hid (by rw [hW.out]; (repeat (with_reducible first | exact Grow.grow_refl _ | refine Grow.grow_setCell ?_ ?_ _ | refine Grow.grow_alloc ?_ _ | refine Grow.grow_drewN ?_ _ | refine Grow.grow_over ?_ _ | refine Grow.grow_via (by assumption) ?_)) <;> omega)
           have HZ : w.heap.size ≤ W.heap.size := Below.size HG.out
           apply Grow.have_known (W := W)
           · rw [hW.out]; exact (Known.new _ _ _).alloc _
           intro q2
           (try simp only [World.size_alloc] at q2)
           apply Grow.have_known (W := W)
           · rw [hW.out]; exact Known.new _ _ _
           intro q4
           (try simp only [World.size_alloc] at q4)
           clear hW
           refine (lengthOf_walk _ _ _ _).mono ?_
           rintro e w1 hp
           obtain ⟨v, rfl, hp, hB⟩ := hp
           obtain ⟨n, rfl, hn⟩ := hp
           have E0 := (order_zero n).trans ((congrArg (fun X => feq X (some 0)) hn).trans H0.out); have HN := Lib.hid hn; clear hn
           replace q2 := q2.below hB
           replace q4 := q4.below hB
           replace HG : Hid (Below w.heap.size w w1) := Lib.hid (Grow.grow_trans HG.out hB)
           replace HZ : w.heap.size ≤ w1.heap.size := Below.size HG.out
           clear hB
           have c2 := q2.cell; have f2 := q2.frozen; have l2 := q2.lt
           have c4 := q4.cell; have f4 := q4.frozen; have l4 := q4.lt
           have s1 := trivial)
        | (go_at_call 62; refine (finiteRef_walk _ _).mono ?_; rintro e w2 ⟨v, rfl, hv, n2, rfl⟩; rw [HN.out, HF.out] at hv; subst hv)
        | (clear s1
           go_at_call 73
           refine Grow.seal_calls ?_
           intro W hW
           have HG2 : Hid (Below w.heap.size w W) := Lib.hid (by rw [hW.out]; (repeat (with_reducible first | exact Grow.grow_refl _ | refine Grow.grow_setCell ?_ ?_ _ | refine Grow.grow_alloc ?_ _ | refine Grow.grow_drewN ?_ _ | refine Grow.grow_over ?_ _ | refine Grow.grow_via (by assumption) ?_)) <;> omega)
           clear HG
           have HG := HG2
           clear HG2
           clear c2 f2 c4 f4
           apply Grow.have_known (W := W)
           · rw [hW.out]; apply Known.at q2; (repeat (with_reducible first | exact q2 | apply Known.same | apply Known.other | apply Known.alloc | apply Known.drewN)) <;> omega
           clear q2
           intro q2
           (try simp only [List.setIfInBounds_toArray, List.set_cons_zero, List.set_cons_succ] at q2)
           apply Grow.have_known (W := W)
           · rw [hW.out]; apply Known.at q4; (repeat (with_reducible first | exact q4 | apply Known.same | apply Known.other | apply Known.alloc | apply Known.drewN)) <;> omega
           clear q4
           intro q4
           (try simp only [List.setIfInBounds_toArray, List.set_cons_zero, List.set_cons_succ] at q4)
           replace HZ : w.heap.size ≤ W.heap.size := Below.size HG.out
           clear hW
           refine (sinCos_walk _ _).mono ?_
           rintro e w1 hp
           obtain ⟨v, rfl, hp, hB⟩ := hp
           obtain ⟨b1, b2, rfl, g1, g2⟩ := hp
           have G1 := Lib.hid g1; have G2 := Lib.hid g2; clear g1 g2
           replace q2 := q2.below hB
           replace q4 := q4.below hB
           replace HG : Hid (Below w.heap.size w w1) := Lib.hid (Grow.grow_trans HG.out hB)
           replace HZ : w.heap.size ≤ w1.heap.size := Below.size HG.out
           clear hB
           have c2 := q2.cell; have f2 := q2.frozen; have l2 := q2.lt
           have c4 := q4.cell; have f4 := q4.frozen; have l4 := q4.lt
           have s3 := trivial))
    apply bodyPost_ret
    · simp [results, Try.results29, go_sem, *]; rfl
    · rfl
    · have hu := HU.out
      simp only [Bool.or_self, Bool.not_true, Bool.not_false, Bool.or_true, Bool.or_false, if_true, Bool.false_eq_true, if_false] at hu
      refine Post.mk (T := IsU _) ?_ ?_
      · rw [hu]
        refine ⟨_, ⟨_, _, _, _, rfl, ?_⟩, rfl⟩
        simp only [Hid, fop] at *
        simp only [*]
        exact ⟨trivial, trivial, trivial, trivial⟩
      · (repeat (with_reducible first
            | exact Grow.grow_refl _
            | refine Grow.grow_setCell ?_ ?_ _
            | refine Grow.grow_alloc ?_ _
            | refine Grow.grow_drewN ?_ _
            | refine Grow.grow_over ?_ _
            | refine Grow.grow_via (by assumption) ?_)) <;> omega
  · have H0 := Lib.hid h0
    have HF := Lib.hid hf
    clear h0 hf
    have HU : Hid (abt ⟨fl a, fl b, fl c⟩ half = _) := Lib.hid (by unfold abt; rw [H0.out, HF.out])
    have s0 := trivial
    go_enter Try.func29, Try.ntmps29
    go_wp2_with (first
        | (refine wpList_arith rfl rfl (by rfl) rfl rfl ?_; intro b1 n1 H1)
        | (clear s0
           go_at_call 44
           refine Grow.seal_calls ?_
           intro W hW
           have HG : Hid (Below w.heap.size w W) := Lib.hid (by rw [hW.out]; (repeat (with_reducible first | exact Grow.grow_refl _ | refine Grow.grow_setCell ?_ ?_ _ | refine Grow.grow_alloc ?_ _ | refine Grow.grow_drewN ?_ _ | refine Grow.grow_over ?_ _ | refine Grow.grow_via (by assumption) ?_)) <;> omega)
           have HZ : w.heap.size ≤ W.heap.size := Below.size HG.out
           apply Grow.have_known (W := W)
           · rw [hW.out]; exact (Known.new _ _ _).alloc _
           intro q2
           (try simp only [World.size_alloc] at q2)
           apply Grow.have_known (W := W)
           · rw [hW.out]; exact Known.new _ _ _
           intro q4
           (try simp only [World.size_alloc] at q4)
           clear hW
           refine (lengthOf_walk _ _ _ _).mono ?_
           rintro e w1 hp
           obtain ⟨v, rfl, hp, hB⟩ := hp
           obtain ⟨n, rfl, hn⟩ := hp
           have E0 := (order_zero n).trans ((congrArg (fun X => feq X (some 0)) hn).trans H0.out); have HN := Lib.hid hn; clear hn
           replace q2 := q2.below hB
           replace q4 := q4.below hB
           replace HG : Hid (Below w.heap.size w w1) := Lib.hid (Grow.grow_trans HG.out hB)
           replace HZ : w.heap.size ≤ w1.heap.size := Below.size HG.out
           clear hB
           have c2 := q2.cell; have f2 := q2.frozen; have l2 := q2.lt
           have c4 := q4.cell; have f4 := q4.frozen; have l4 := q4.lt
           have s1 := trivial)
        | (go_at_call 62; refine (finiteRef_walk _ _).mono ?_; rintro e w2 ⟨v, rfl, hv, n2, rfl⟩; rw [HN.out, HF.out] at hv; subst hv))
    apply bodyPost_ret
    · simp [results, Try.results29, go_sem, *]; rfl
    · rfl
    · have hu := HU.out
      simp only [Bool.or_self, Bool.not_true, Bool.not_false, Bool.or_true, Bool.or_false, if_true, Bool.false_eq_true, if_false] at hu
      refine Post.mk (T := IsU _) ?_ ?_
      · rw [hu]
        exact ⟨_, ⟨_, _, _, _, rfl, fl_one, fl_zero, fl_zero, fl_zero⟩, rfl⟩
      · (repeat (with_reducible first
            | exact Grow.grow_refl _
            | refine Grow.grow_setCell ?_ ?_ _
            | refine Grow.grow_alloc ?_ _
            | refine Grow.grow_drewN ?_ _
            | refine Grow.grow_over ?_ _
            | refine Grow.grow_via (by assumption) ?_)) <;> omega
  · have H0 := Lib.hid h0
    have HF := Lib.hid hf
    clear h0 hf
    have HU : Hid (abt ⟨fl a, fl b, fl c⟩ half = _) := Lib.hid (by unfold abt; rw [H0.out, HF.out])
    have s0 := trivial
    go_enter Try.func29, Try.ntmps29
    go_wp2_with (first
        | (refine wpList_arith rfl rfl (by rfl) rfl rfl ?_; intro b1 n1 H1)
        | (clear s0
           go_at_call 44
           refine Grow.seal_calls ?_
           intro W hW
           have HG : Hid (Below w.heap.size w W) := Lib.hid (by rw [hW.out]; (repeat (with_reducible first | exact Grow.grow_refl _ | refine Grow.grow_setCell ?_ ?_ _ | refine Grow.grow_alloc ?_ _ | refine Grow.grow_drewN ?_ _ | refine Grow.grow_over ?_ _ | refine Grow.grow_via (by assumption) ?_)) <;> omega)
           have HZ : w.heap.size ≤ W.heap.size := Below.size HG.out
           apply Grow.have_known (W := W)
           · rw [hW.out]; exact (Known.new _ _ _).alloc _
           intro q2
           (try simp only [World.size_alloc] at q2)
           apply Grow.have_known (W := W)
           · rw [hW.out]; exact Known.new _ _ _
           intro q4
           (try simp only [World.size_alloc] at q4)
           clear hW
           refine (lengthOf_walk _ _ _ _).mono ?_
           rintro e w1 hp
           obtain ⟨v, rfl, hp, hB⟩ := hp
           obtain ⟨n, rfl, hn⟩ := hp
           have E0 := (order_zero n).trans ((congrArg (fun X => feq X (some 0)) hn).trans H0.out); have HN := Lib.hid hn; clear hn
           replace q2 := q2.below hB
           replace q4 := q4.below hB
           replace HG : Hid (Below w.heap.size w w1) := Lib.hid (Grow.grow_trans HG.out hB)
           replace HZ : w.heap.size ≤ w1.heap.size := Below.size HG.out
           clear hB
           have c2 := q2.cell; have f2 := q2.frozen; have l2 := q2.lt
           have c4 := q4.cell; have f4 := q4.frozen; have l4 := q4.lt
           have s1 := trivial)
        | (go_at_call 62; refine (finiteRef_walk _ _).mono ?_; rintro e w2 ⟨v, rfl, hv, n2, rfl⟩; rw [HN.out, HF.out] at hv; subst hv))
    apply bodyPost_ret
    · simp [results, Try.results29, go_sem, *]; rfl
    · rfl
    · have hu := HU.out
      simp only [Bool.or_self, Bool.not_true, Bool.not_false, Bool.or_true, Bool.or_false, if_true, Bool.false_eq_true, if_false] at hu
      refine Post.mk (T := IsU _) ?_ ?_
      · rw [hu]
        exact ⟨_, ⟨_, _, _, _, rfl, fl_one, fl_zero, fl_zero, fl_zero⟩, rfl⟩
      · (repeat (with_reducible first
            | exact Grow.grow_refl _
            | refine Grow.grow_setCell ?_ ?_ _
            | refine Grow.grow_alloc ?_ _
            | refine Grow.grow_drewN ?_ _
            | refine Grow.grow_over ?_ _
            | refine Grow.grow_via (by assumption) ?_)) <;> omega

end Go.Proofs.Ytdnclgpjcgamgaa
