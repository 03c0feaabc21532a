/- The walks of the two Gibbs functions: the velocity of three places of an orbit. -/
import Derived.Test.YtdnclgpjcgamgaaS6
import Derived.Test.YtdnclgpjcgamgaaKn
namespace Go.Proofs.Ytdnclgpjcgamgaa
open Go.RowKit Go.Fl Go.Grow

theorem v3_eq {a b c : Nat} {X : V3} (h1 : fl a = X.x) (h2 : fl b = X.y) (h3 : fl c = X.z) : V3.mk (fl a) (fl b) (fl c) = X := by rw [h1, h2, h3]
set_option maxRecDepth 10000 in
theorem alloc41 (w : World) : (Instr.alloc 41 true (.tuple #[])).run Try.prog w = .ok (.pointer (some ⟨w.heap.size, 0, none⟩)) (w.alloc (.cells #[.float .f64 0, .float .f64 0, .float .f64 0] 41)) := by
  simp [go_sem]

/-- Gibbs' velocity at the middle of three places. -/
def gibbsAt (a b c : V3) (k : Option Nat) : V3 :=
  vmul (fsqrt (fdiv k (fmul (vlen (vsum (vsum (vmul (vlen a) (vcross b c)) (vmul (vlen b) (vcross c a))) (vmul (vlen c) (vcross a b)))) (vlen (vsum (vsum (vcross a b) (vcross b c)) (vcross c a))))))
    (vsum (vmul (fdiv (fl 4607182418800017408) (vlen b)) (vcross (vsum (vsum (vcross a b) (vcross b c)) (vcross c a)) b))
      (vsum (vsum (vmul (fsub (vlen b) (vlen c)) a) (vmul (fsub (vlen c) (vlen a)) b)) (vmul (fsub (vlen a) (vlen b)) c)))
def vfin (v : V3) : V3 × Bool := if fin v.x && fin v.y && fin v.z then (v, true) else (⟨some 0, some 0, some 0⟩, false)
def IsG (X : V3 × Bool) (v : Value) : Prop := ∃ q, IsV X.1 q ∧ v = .tuple #[q, .bool X.2]

/-- What the callees give. -/
def SpecG : FuncId → Array Value → Value → Prop
  | 63, ⟨[.agg ⟨[.float .f64 a, .float .f64 b, .float .f64 c]⟩]⟩, v => IsF (vlen ⟨fl a, fl b, fl c⟩) v
  | 44, ⟨[.agg ⟨[.float .f64 a, .float .f64 b, .float .f64 c]⟩]⟩, v => IsF (vlen ⟨fl a, fl b, fl c⟩) v
  | 64, ⟨[.agg ⟨[.float .f64 a, .float .f64 b, .float .f64 c]⟩, .agg ⟨[.float .f64 d, .float .f64 e, .float .f64 f]⟩]⟩, v => IsV (vcross ⟨fl a, fl b, fl c⟩ ⟨fl d, fl e, fl f⟩) v
  | 68, ⟨[.agg ⟨[.float .f64 a, .float .f64 b, .float .f64 c]⟩, .agg ⟨[.float .f64 d, .float .f64 e, .float .f64 f]⟩]⟩, v => IsV (vcross ⟨fl a, fl b, fl c⟩ ⟨fl d, fl e, fl f⟩) v
  | 65, ⟨[.agg ⟨[.float .f64 a, .float .f64 b, .float .f64 c]⟩, .agg ⟨[.float .f64 d, .float .f64 e, .float .f64 f]⟩]⟩, v => IsV (vsum ⟨fl a, fl b, fl c⟩ ⟨fl d, fl e, fl f⟩) v
  | 69, ⟨[.agg ⟨[.float .f64 a, .float .f64 b, .float .f64 c]⟩, .agg ⟨[.float .f64 d, .float .f64 e, .float .f64 f]⟩]⟩, v => IsV (vsum ⟨fl a, fl b, fl c⟩ ⟨fl d, fl e, fl f⟩) v
  | 66, ⟨[.float .f64 k, .agg ⟨[.float .f64 a, .float .f64 b, .float .f64 c]⟩]⟩, v => IsV (vmul (fl k) ⟨fl a, fl b, fl c⟩) v
  | 70, ⟨[.float .f64 k, .agg ⟨[.float .f64 a, .float .f64 b, .float .f64 c]⟩]⟩, v => IsV (vmul (fl k) ⟨fl a, fl b, fl c⟩) v
  | 67, ⟨[.float .f64 k, .agg ⟨[.float .f64 a, .float .f64 b, .float .f64 c]⟩]⟩, v => IsV (vmul (fl k) ⟨fl a, fl b, fl c⟩) v
  | 59, ⟨[.float .f64 s]⟩, v => IsF (fsqrt (fl s)) v
  | _, _, _ => False

set_option maxRecDepth 10000 in
set_option maxHeartbeats 16000000 in
theorem gibbs_walk (p1 p2 p3 p4 p5 p6 p7 p8 p9 kk : Nat) (w : World) :
    Calls Try.prog 23 #[.agg #[.float .f64 p1, .float .f64 p2, .float .f64 p3], .agg #[.float .f64 p4, .float .f64 p5, .float .f64 p6], .agg #[.float .f64 p7, .float .f64 p8, .float .f64 p9], .float .f64 kk] w (Post (IsG (vfin (gibbsAt ⟨fl p1, fl p2, fl p3⟩ ⟨fl p4, fl p5, fl p6⟩ ⟨fl p7, fl p8, fl p9⟩ (fl kk)))) w) := by
  go_enter Try.func23, Try.ntmps23
  go_wp2
  refine Grow.seal_wp ?_
  intro W hW
  have HG : Hid (Below w.heap.size w W) := Lib.hid (by
    rw [hW.out]
    (repeat (with_reducible first
      | exact Grow.grow_refl _
      | refine Grow.grow_setCell ?_ ?_ _
      | refine Grow.grow_alloc ?_ _
      | refine Grow.grow_drewN ?_ _
      | refine Grow.grow_over ?_ _
      | refine Grow.grow_via (by assumption) ?_)) <;> omega)
  have HZ : w.heap.size ≤ W.heap.size := Below.size HG.out
  apply Grow.have_known (W := W)
  · rw [hW.out]
    exact (((Known.new _ _ _).alloc _).alloc _).alloc _
  intro q4
  (try simp only [World.size_alloc] at q4)
  apply Grow.have_known (W := W)
  · rw [hW.out]
    exact ((Known.new _ _ _).alloc _).alloc _
  intro q5
  (try simp only [World.size_alloc] at q5)
  apply Grow.have_known (W := W)
  · rw [hW.out]
    exact (Known.new _ _ _).alloc _
  intro q6
  (try simp only [World.size_alloc] at q6)
  apply Grow.have_known (W := W)
  · rw [hW.out]
    exact Known.new _ _ _
  intro q8
  (try simp only [World.size_alloc] at q8)
  clear hW
  have c4 := q4.cell
  have f4 := q4.frozen
  have l4 := q4.lt
  have c5 := q5.cell
  have f5 := q5.frozen
  have l5 := q5.lt
  have c6 := q6.cell
  have f6 := q6.frozen
  have l6 := q6.lt
  have c8 := q8.cell
  have f8 := q8.frozen
  have l8 := q8.lt
  refine Rel.wp_region_rel SpecG (by kernel_rfl) (lexB_of_fast (by kernel_rfl) (by kernel_rfl)) ?_
  repeat (first
    | (refine rel_arith (by rfl) rfl (by rfl) rfl rfl ?_; intro b1 H1; simp only [Act.put, List.setIfInBounds_toArray, List.set_cons_zero, List.set_cons_succ])
    | (refine rel_call (f := 63) (args := #[.agg #[.float .f64 _, .float .f64 _, .float .f64 _]]) (by rfl) rfl (callAt_func rfl Try.func63 (by kernel_rfl) (by kernel_rfl) rfl) (keeps_over (fun v h => h) fun x => length_walk _ _ _ _) ?_; rintro _ ⟨b, rfl, hb⟩; have H := Lib.hid hb; clear hb; simp only [Act.put, List.setIfInBounds_toArray, List.set_cons_zero, List.set_cons_succ])
    | (refine rel_plain (by rfl) rfl ?_; intro K hK; go_big_quiet_op; go_big_quiet_on)
    | (refine rel_skip (by rfl) ?_; simp only [Act.put, List.setIfInBounds_toArray, List.set_cons_zero, List.set_cons_succ]))
  refine Rel.wpRel_nil ?_
  intro w9 hB9 hG9
  clear c4 f4 c5 f5 c6 f6 c8 f8
  replace q4 := q4.below hB9
  replace q5 := q5.below hB9
  replace q6 := q6.below hB9
  replace q8 := q8.below hB9
  clear hG9
  replace HG : Hid (Below w.heap.size w w9) := Lib.hid (Grow.grow_trans HG.out hB9)
  replace HZ : w.heap.size ≤ w9.heap.size := Below.size HG.out
  clear hB9
  have c4 := q4.cell
  have f4 := q4.frozen
  have l4 := q4.lt
  have c5 := q5.cell
  have f5 := q5.frozen
  have l5 := q5.lt
  have c6 := q6.cell
  have f6 := q6.frozen
  have l6 := q6.lt
  have c8 := q8.cell
  have f8 := q8.frozen
  have l8 := q8.lt
  go_wp2
  refine Rel.wp_region_rel_tail SpecG 12 (by kernel_rfl) (lexTailB_of_fast (by kernel_rfl) (by kernel_rfl) (by kernel_rfl)) ?_
  simp only [List.append_eq, List.cons_append, List.nil_append, List.take_succ_cons, List.take_zero, List.drop_succ_cons, List.drop_zero]
  repeat (first
    | (refine rel_arith (by rfl) rfl (by rfl) rfl rfl ?_; intro b1 H1; simp only [Act.put, List.setIfInBounds_toArray, List.set_cons_zero, List.set_cons_succ])
    | (refine rel_call (f := 64) (args := #[.agg #[.float .f64 _, .float .f64 _, .float .f64 _], .agg #[.float .f64 _, .float .f64 _, .float .f64 _]]) (by rfl) rfl (callAt_func rfl Try.func64 (by kernel_rfl) (by kernel_rfl) rfl) (keeps_over (fun v h => h) fun x => cross_walk _ _ _ _ _ _ _) ?_; rintro _ ⟨b1, b2, b3, rfl, g1, g2, g3⟩; have G := Lib.hid (v3_eq g1 g2 g3); clear g1 g2 g3; simp only [Act.put, List.setIfInBounds_toArray, List.set_cons_zero, List.set_cons_succ])
    | (refine rel_alloc (by rfl) rfl alloc41 ?_; intro k hk; have hk1 := hk.1; have hk2 := hk.2; clear hk; (try simp only [World.size_alloc, World.size_setCell, World.heap_drewN] at hk1); (try simp only [List.forall_mem_cons] at hk2); (try obtain ⟨hk2, hk3⟩ := hk2); (try obtain ⟨hk3, hk4⟩ := hk3); (try obtain ⟨hk4, hk5⟩ := hk4); simp only [Act.put, List.setIfInBounds_toArray, List.set_cons_zero, List.set_cons_succ])
    | (refine rel_plain (by rfl) rfl ?_; intro K hK; go_big_quiet_op; go_big_quiet_on)
    | (refine rel_skip (by rfl) ?_; simp only [Act.put, List.setIfInBounds_toArray, List.set_cons_zero, List.set_cons_succ]))
  refine Rel.wpRel_nil ?_
  intro w9 hB9 hG9
  clear c4 f4 c5 f5 c6 f6 c8 f8
  replace q4 := q4.below hB9
  replace q5 := q5.below hB9
  replace q6 := q6.below hB9
  replace q8 := q8.below hB9
  simp only [Rel.holds, List.forall_mem_cons] at hG9
  obtain ⟨hx0, hx1, hx2, -⟩ := hG9
  have q15 := Known.held hx0
  clear hx0
  have q14 := Known.held hx1
  clear hx1
  have q13 := Known.held hx2
  clear hx2
  have m13 := q13.ge (n := w.heap.size) (by omega)
  have m14 := q14.ge (n := w.heap.size) (by omega)
  have m15 := q15.ge (n := w.heap.size) (by omega)
  replace HG : Hid (Below w.heap.size w w9) := Lib.hid (Grow.grow_trans HG.out hB9)
  replace HZ : w.heap.size ≤ w9.heap.size := Below.size HG.out
  clear hB9
  have c4 := q4.cell
  have f4 := q4.frozen
  have l4 := q4.lt
  have c5 := q5.cell
  have f5 := q5.frozen
  have l5 := q5.lt
  have c6 := q6.cell
  have f6 := q6.frozen
  have l6 := q6.lt
  have c8 := q8.cell
  have f8 := q8.frozen
  have l8 := q8.lt
  have c13 := q13.cell
  have f13 := q13.frozen
  have l13 := q13.lt
  have c14 := q14.cell
  have f14 := q14.frozen
  have l14 := q14.lt
  have c15 := q15.cell
  have f15 := q15.frozen
  have l15 := q15.lt
  go_wp2
  refine Grow.seal_wp ?_
  intro W hW
  have HG2 : Hid (Below w.heap.size w W) := Lib.hid (by
    rw [hW.out]
    (repeat (with_reducible first
      | exact Grow.grow_refl _
      | refine Grow.grow_setCell ?_ ?_ _
      | refine Grow.grow_alloc ?_ _
      | refine Grow.grow_drewN ?_ _
      | refine Grow.grow_over ?_ _
      | refine Grow.grow_via (by assumption) ?_)) <;> omega)
  clear HG
  have HG := HG2
  clear HG2
  replace HZ : w.heap.size ≤ W.heap.size := Below.size HG.out
  clear c4 f4 c5 f5 c6 f6 c8 f8 c13 f13 c14 f14 c15 f15
  apply Grow.have_known (W := W)
  · rw [hW.out]
    apply Known.at q4
    (repeat (with_reducible first | exact q4 | apply Known.same | apply Known.other)) <;> omega
  clear q4
  intro q4
  (try simp only [List.setIfInBounds_toArray, List.set_cons_zero, List.set_cons_succ] at q4)
  apply Grow.have_known (W := W)
  · rw [hW.out]
    apply Known.at q5
    (repeat (with_reducible first | exact q5 | apply Known.same | apply Known.other)) <;> omega
  clear q5
  intro q5
  (try simp only [List.setIfInBounds_toArray, List.set_cons_zero, List.set_cons_succ] at q5)
  apply Grow.have_known (W := W)
  · rw [hW.out]
    apply Known.at q6
    (repeat (with_reducible first | exact q6 | apply Known.same | apply Known.other)) <;> omega
  clear q6
  intro q6
  (try simp only [List.setIfInBounds_toArray, List.set_cons_zero, List.set_cons_succ] at q6)
  apply Grow.have_known (W := W)
  · rw [hW.out]
    apply Known.at q8
    (repeat (with_reducible first | exact q8 | apply Known.same | apply Known.other)) <;> omega
  clear q8
  intro q8
  (try simp only [List.setIfInBounds_toArray, List.set_cons_zero, List.set_cons_succ] at q8)
  apply Grow.have_known (W := W)
  · rw [hW.out]
    apply Known.at q13
    (repeat (with_reducible first | exact q13 | apply Known.same | apply Known.other)) <;> omega
  clear q13
  intro q13
  (try simp only [List.setIfInBounds_toArray, List.set_cons_zero, List.set_cons_succ] at q13)
  apply Grow.have_known (W := W)
  · rw [hW.out]
    apply Known.at q14
    (repeat (with_reducible first | exact q14 | apply Known.same | apply Known.other)) <;> omega
  clear q14
  intro q14
  (try simp only [List.setIfInBounds_toArray, List.set_cons_zero, List.set_cons_succ] at q14)
  apply Grow.have_known (W := W)
  · rw [hW.out]
    apply Known.at q15
    (repeat (with_reducible first | exact q15 | apply Known.same | apply Known.other)) <;> omega
  clear q15
  intro q15
  (try simp only [List.setIfInBounds_toArray, List.set_cons_zero, List.set_cons_succ] at q15)
  clear hW
  have c4 := q4.cell
  have f4 := q4.frozen
  have l4 := q4.lt
  have c5 := q5.cell
  have f5 := q5.frozen
  have l5 := q5.lt
  have c6 := q6.cell
  have f6 := q6.frozen
  have l6 := q6.lt
  have c8 := q8.cell
  have f8 := q8.frozen
  have l8 := q8.lt
  have c13 := q13.cell
  have f13 := q13.frozen
  have l13 := q13.lt
  have c14 := q14.cell
  have f14 := q14.frozen
  have l14 := q14.lt
  have c15 := q15.cell
  have f15 := q15.frozen
  have l15 := q15.lt
  refine Rel.wp_region_rel_tail SpecG 12 (by kernel_rfl) (lexTailB_of_fast (by kernel_rfl) (by kernel_rfl) (by kernel_rfl)) ?_
  simp only [List.append_eq, List.cons_append, List.nil_append, List.take_succ_cons, List.take_zero, List.drop_succ_cons, List.drop_zero]
  repeat (first
    | (refine rel_arith (by rfl) rfl (by rfl) rfl rfl ?_; intro b1 H1; simp only [Act.put, List.setIfInBounds_toArray, List.set_cons_zero, List.set_cons_succ])
    | (refine rel_call (f := 66) (args := #[.float .f64 _, .agg #[.float .f64 _, .float .f64 _, .float .f64 _]]) (by rfl) rfl (callAt_func rfl Try.func66 (by kernel_rfl) (by kernel_rfl) rfl) (keeps_over (fun v h => h) fun x => rounded_walk _ _ _ _ _) ?_; rintro _ ⟨b1, b2, b3, rfl, g1, g2, g3⟩; have G := Lib.hid (v3_eq g1 g2 g3); clear g1 g2 g3; simp only [Act.put, List.setIfInBounds_toArray, List.set_cons_zero, List.set_cons_succ])
    | (refine rel_call (f := 65) (args := #[.agg #[.float .f64 _, .float .f64 _, .float .f64 _], .agg #[.float .f64 _, .float .f64 _, .float .f64 _]]) (by rfl) rfl (callAt_func rfl Try.func65 (by kernel_rfl) (by kernel_rfl) rfl) (keeps_over (fun v h => h) fun x => sum_walk _ _ _ _ _ _ _) ?_; rintro _ ⟨b1, b2, b3, rfl, g1, g2, g3⟩; have G := Lib.hid (v3_eq g1 g2 g3); clear g1 g2 g3; simp only [Act.put, List.setIfInBounds_toArray, List.set_cons_zero, List.set_cons_succ])
    | (refine rel_alloc (by rfl) rfl alloc41 ?_; intro k hk; have hk1 := hk.1; have hk2 := hk.2; clear hk; (try simp only [World.size_alloc, World.size_setCell, World.heap_drewN] at hk1); (try simp only [List.forall_mem_cons] at hk2); (try obtain ⟨hk2, hk3⟩ := hk2); (try obtain ⟨hk3, hk4⟩ := hk3); (try obtain ⟨hk4, hk5⟩ := hk4); simp only [Act.put, List.setIfInBounds_toArray, List.set_cons_zero, List.set_cons_succ])
    | (refine rel_plain (by rfl) rfl ?_; intro K hK; go_big_quiet_op; go_big_quiet_on)
    | (refine rel_skip (by rfl) ?_; simp only [Act.put, List.setIfInBounds_toArray, List.set_cons_zero, List.set_cons_succ]))
  refine Rel.wpRel_nil ?_
  intro w9 hB9 hG9
  clear c4 f4 c5 f5 c6 f6 c8 f8 c13 f13 c14 f14 c15 f15
  replace q4 := q4.below hB9
  replace q5 := q5.below hB9
  replace q6 := q6.below hB9
  replace q8 := q8.below hB9
  replace q13 := q13.below hB9
  replace q14 := q14.below hB9
  replace q15 := q15.below hB9
  simp only [Rel.holds, List.forall_mem_cons] at hG9
  obtain ⟨hx0, -⟩ := hG9
  have q16 := Known.held hx0
  clear hx0
  have m16 := q16.ge (n := w.heap.size) (by omega)
  replace HG : Hid (Below w.heap.size w w9) := Lib.hid (Grow.grow_trans HG.out hB9)
  replace HZ : w.heap.size ≤ w9.heap.size := Below.size HG.out
  clear hB9
  have c4 := q4.cell
  have f4 := q4.frozen
  have l4 := q4.lt
  have c5 := q5.cell
  have f5 := q5.frozen
  have l5 := q5.lt
  have c6 := q6.cell
  have f6 := q6.frozen
  have l6 := q6.lt
  have c8 := q8.cell
  have f8 := q8.frozen
  have l8 := q8.lt
  have c13 := q13.cell
  have f13 := q13.frozen
  have l13 := q13.lt
  have c14 := q14.cell
  have f14 := q14.frozen
  have l14 := q14.lt
  have c15 := q15.cell
  have f15 := q15.frozen
  have l15 := q15.lt
  have c16 := q16.cell
  have f16 := q16.frozen
  have l16 := q16.lt
  go_wp2
  refine Grow.seal_wp ?_
  intro W hW
  have HG2 : Hid (Below w.heap.size w W) := Lib.hid (by
    rw [hW.out]
    (repeat (with_reducible first
      | exact Grow.grow_refl _
      | refine Grow.grow_setCell ?_ ?_ _
      | refine Grow.grow_alloc ?_ _
      | refine Grow.grow_drewN ?_ _
      | refine Grow.grow_over ?_ _
      | refine Grow.grow_via (by assumption) ?_)) <;> omega)
  clear HG
  have HG := HG2
  clear HG2
  replace HZ : w.heap.size ≤ W.heap.size := Below.size HG.out
  clear c4 f4 c5 f5 c6 f6 c8 f8 c13 f13 c14 f14 c15 f15 c16 f16
  apply Grow.have_known (W := W)
  · rw [hW.out]
    apply Known.at q4
    (repeat (with_reducible first | exact q4 | apply Known.same | apply Known.other)) <;> omega
  clear q4
  intro q4
  (try simp only [List.setIfInBounds_toArray, List.set_cons_zero, List.set_cons_succ] at q4)
  apply Grow.have_known (W := W)
  · rw [hW.out]
    apply Known.at q5
    (repeat (with_reducible first | exact q5 | apply Known.same | apply Known.other)) <;> omega
  clear q5
  intro q5
  (try simp only [List.setIfInBounds_toArray, List.set_cons_zero, List.set_cons_succ] at q5)
  apply Grow.have_known (W := W)
  · rw [hW.out]
    apply Known.at q6
    (repeat (with_reducible first | exact q6 | apply Known.same | apply Known.other)) <;> omega
  clear q6
  intro q6
  (try simp only [List.setIfInBounds_toArray, List.set_cons_zero, List.set_cons_succ] at q6)
  apply Grow.have_known (W := W)
  · rw [hW.out]
    apply Known.at q8
    (repeat (with_reducible first | exact q8 | apply Known.same | apply Known.other)) <;> omega
  clear q8
  intro q8
  (try simp only [List.setIfInBounds_toArray, List.set_cons_zero, List.set_cons_succ] at q8)
  apply Grow.have_known (W := W)
  · rw [hW.out]
    apply Known.at q13
    (repeat (with_reducible first | exact q13 | apply Known.same | apply Known.other)) <;> omega
  clear q13
  intro q13
  (try simp only [List.setIfInBounds_toArray, List.set_cons_zero, List.set_cons_succ] at q13)
  apply Grow.have_known (W := W)
  · rw [hW.out]
    apply Known.at q14
    (repeat (with_reducible first | exact q14 | apply Known.same | apply Known.other)) <;> omega
  clear q14
  intro q14
  (try simp only [List.setIfInBounds_toArray, List.set_cons_zero, List.set_cons_succ] at q14)
  apply Grow.have_known (W := W)
  · rw [hW.out]
    apply Known.at q15
    (repeat (with_reducible first | exact q15 | apply Known.same | apply Known.other)) <;> omega
  clear q15
  intro q15
  (try simp only [List.setIfInBounds_toArray, List.set_cons_zero, List.set_cons_succ] at q15)
  apply Grow.have_known (W := W)
  · rw [hW.out]
    apply Known.at q16
    (repeat (with_reducible first | exact q16 | apply Known.same | apply Known.other)) <;> omega
  clear q16
  intro q16
  (try simp only [List.setIfInBounds_toArray, List.set_cons_zero, List.set_cons_succ] at q16)
  clear hW
  have c4 := q4.cell
  have f4 := q4.frozen
  have l4 := q4.lt
  have c5 := q5.cell
  have f5 := q5.frozen
  have l5 := q5.lt
  have c6 := q6.cell
  have f6 := q6.frozen
  have l6 := q6.lt
  have c8 := q8.cell
  have f8 := q8.frozen
  have l8 := q8.lt
  have c13 := q13.cell
  have f13 := q13.frozen
  have l13 := q13.lt
  have c14 := q14.cell
  have f14 := q14.frozen
  have l14 := q14.lt
  have c15 := q15.cell
  have f15 := q15.frozen
  have l15 := q15.lt
  have c16 := q16.cell
  have f16 := q16.frozen
  have l16 := q16.lt
  refine Rel.wp_region_rel_tail SpecG 6 (by kernel_rfl) (lexTailB_of_fast (by kernel_rfl) (by kernel_rfl) (by kernel_rfl)) ?_
  simp only [List.append_eq, List.cons_append, List.nil_append, List.take_succ_cons, List.take_zero, List.drop_succ_cons, List.drop_zero]
  repeat (first
    | (refine rel_arith (by rfl) rfl (by rfl) rfl rfl ?_; intro b1 H1; simp only [Act.put, List.setIfInBounds_toArray, List.set_cons_zero, List.set_cons_succ])
    | (refine rel_call (f := 65) (args := #[.agg #[.float .f64 _, .float .f64 _, .float .f64 _], .agg #[.float .f64 _, .float .f64 _, .float .f64 _]]) (by rfl) rfl (callAt_func rfl Try.func65 (by kernel_rfl) (by kernel_rfl) rfl) (keeps_over (fun v h => h) fun x => sum_walk _ _ _ _ _ _ _) ?_; rintro _ ⟨b1, b2, b3, rfl, g1, g2, g3⟩; have G := Lib.hid (v3_eq g1 g2 g3); clear g1 g2 g3; simp only [Act.put, List.setIfInBounds_toArray, List.set_cons_zero, List.set_cons_succ])
    | (refine rel_alloc (by rfl) rfl alloc41 ?_; intro k hk; have hk1 := hk.1; have hk2 := hk.2; clear hk; (try simp only [World.size_alloc, World.size_setCell, World.heap_drewN] at hk1); (try simp only [List.forall_mem_cons] at hk2); (try obtain ⟨hk2, hk3⟩ := hk2); (try obtain ⟨hk3, hk4⟩ := hk3); (try obtain ⟨hk4, hk5⟩ := hk4); simp only [Act.put, List.setIfInBounds_toArray, List.set_cons_zero, List.set_cons_succ])
    | (refine rel_plain (by rfl) rfl ?_; intro K hK; go_big_quiet_op; go_big_quiet_on)
    | (refine rel_skip (by rfl) ?_; simp only [Act.put, List.setIfInBounds_toArray, List.set_cons_zero, List.set_cons_succ]))
  refine Rel.wpRel_nil ?_
  intro w9 hB9 hG9
  clear c4 f4 c5 f5 c6 f6 c8 f8 c13 f13 c14 f14 c15 f15 c16 f16
  replace q4 := q4.below hB9
  replace q5 := q5.below hB9
  replace q6 := q6.below hB9
  replace q8 := q8.below hB9
  replace q13 := q13.below hB9
  replace q14 := q14.below hB9
  replace q15 := q15.below hB9
  replace q16 := q16.below hB9
  simp only [Rel.holds, List.forall_mem_cons] at hG9
  obtain ⟨hx0, -⟩ := hG9
  have q17 := Known.held hx0
  clear hx0
  have m17 := q17.ge (n := w.heap.size) (by omega)
  replace HG : Hid (Below w.heap.size w w9) := Lib.hid (Grow.grow_trans HG.out hB9)
  replace HZ : w.heap.size ≤ w9.heap.size := Below.size HG.out
  clear hB9
  have c4 := q4.cell
  have f4 := q4.frozen
  have l4 := q4.lt
  have c5 := q5.cell
  have f5 := q5.frozen
  have l5 := q5.lt
  have c6 := q6.cell
  have f6 := q6.frozen
  have l6 := q6.lt
  have c8 := q8.cell
  have f8 := q8.frozen
  have l8 := q8.lt
  have c13 := q13.cell
  have f13 := q13.frozen
  have l13 := q13.lt
  have c14 := q14.cell
  have f14 := q14.frozen
  have l14 := q14.lt
  have c15 := q15.cell
  have f15 := q15.frozen
  have l15 := q15.lt
  have c16 := q16.cell
  have f16 := q16.frozen
  have l16 := q16.lt
  have c17 := q17.cell
  have f17 := q17.frozen
  have l17 := q17.lt
  go_wp2
  refine Grow.seal_wp ?_
  intro W hW
  have HG2 : Hid (Below w.heap.size w W) := Lib.hid (by
    rw [hW.out]
    (repeat (with_reducible first
      | exact Grow.grow_refl _
      | refine Grow.grow_setCell ?_ ?_ _
      | refine Grow.grow_alloc ?_ _
      | refine Grow.grow_drewN ?_ _
      | refine Grow.grow_over ?_ _
      | refine Grow.grow_via (by assumption) ?_)) <;> omega)
  clear HG
  have HG := HG2
  clear HG2
  replace HZ : w.heap.size ≤ W.heap.size := Below.size HG.out
  clear c4 f4 c5 f5 c6 f6 c8 f8 c13 f13 c14 f14 c15 f15 c16 f16 c17 f17
  apply Grow.have_known (W := W)
  · rw [hW.out]
    apply Known.at q4
    (repeat (with_reducible first | exact q4 | apply Known.same | apply Known.other)) <;> omega
  clear q4
  intro q4
  (try simp only [List.setIfInBounds_toArray, List.set_cons_zero, List.set_cons_succ] at q4)
  apply Grow.have_known (W := W)
  · rw [hW.out]
    apply Known.at q5
    (repeat (with_reducible first | exact q5 | apply Known.same | apply Known.other)) <;> omega
  clear q5
  intro q5
  (try simp only [List.setIfInBounds_toArray, List.set_cons_zero, List.set_cons_succ] at q5)
  apply Grow.have_known (W := W)
  · rw [hW.out]
    apply Known.at q6
    (repeat (with_reducible first | exact q6 | apply Known.same | apply Known.other)) <;> omega
  clear q6
  intro q6
  (try simp only [List.setIfInBounds_toArray, List.set_cons_zero, List.set_cons_succ] at q6)
  apply Grow.have_known (W := W)
  · rw [hW.out]
    apply Known.at q8
    (repeat (with_reducible first | exact q8 | apply Known.same | apply Known.other)) <;> omega
  clear q8
  intro q8
  (try simp only [List.setIfInBounds_toArray, List.set_cons_zero, List.set_cons_succ] at q8)
  apply Grow.have_known (W := W)
  · rw [hW.out]
    apply Known.at q13
    (repeat (with_reducible first | exact q13 | apply Known.same | apply Known.other)) <;> omega
  clear q13
  intro q13
  (try simp only [List.setIfInBounds_toArray, List.set_cons_zero, List.set_cons_succ] at q13)
  apply Grow.have_known (W := W)
  · rw [hW.out]
    apply Known.at q14
    (repeat (with_reducible first | exact q14 | apply Known.same | apply Known.other)) <;> omega
  clear q14
  intro q14
  (try simp only [List.setIfInBounds_toArray, List.set_cons_zero, List.set_cons_succ] at q14)
  apply Grow.have_known (W := W)
  · rw [hW.out]
    apply Known.at q15
    (repeat (with_reducible first | exact q15 | apply Known.same | apply Known.other)) <;> omega
  clear q15
  intro q15
  (try simp only [List.setIfInBounds_toArray, List.set_cons_zero, List.set_cons_succ] at q15)
  apply Grow.have_known (W := W)
  · rw [hW.out]
    apply Known.at q16
    (repeat (with_reducible first | exact q16 | apply Known.same | apply Known.other)) <;> omega
  clear q16
  intro q16
  (try simp only [List.setIfInBounds_toArray, List.set_cons_zero, List.set_cons_succ] at q16)
  apply Grow.have_known (W := W)
  · rw [hW.out]
    apply Known.at q17
    (repeat (with_reducible first | exact q17 | apply Known.same | apply Known.other)) <;> omega
  clear q17
  intro q17
  (try simp only [List.setIfInBounds_toArray, List.set_cons_zero, List.set_cons_succ] at q17)
  clear hW
  have c4 := q4.cell
  have f4 := q4.frozen
  have l4 := q4.lt
  have c5 := q5.cell
  have f5 := q5.frozen
  have l5 := q5.lt
  have c6 := q6.cell
  have f6 := q6.frozen
  have l6 := q6.lt
  have c8 := q8.cell
  have f8 := q8.frozen
  have l8 := q8.lt
  have c13 := q13.cell
  have f13 := q13.frozen
  have l13 := q13.lt
  have c14 := q14.cell
  have f14 := q14.frozen
  have l14 := q14.lt
  have c15 := q15.cell
  have f15 := q15.frozen
  have l15 := q15.lt
  have c16 := q16.cell
  have f16 := q16.frozen
  have l16 := q16.lt
  have c17 := q17.cell
  have f17 := q17.frozen
  have l17 := q17.lt
  refine Rel.wp_region_rel_tail SpecG 18 (by kernel_rfl) (lexTailB_of_fast (by kernel_rfl) (by kernel_rfl) (by kernel_rfl)) ?_
  simp only [List.append_eq, List.cons_append, List.nil_append, List.take_succ_cons, List.take_zero, List.drop_succ_cons, List.drop_zero]
  repeat (first
    | (refine rel_arith (by rfl) rfl (by rfl) rfl rfl ?_; intro b1 H1; simp only [Act.put, List.setIfInBounds_toArray, List.set_cons_zero, List.set_cons_succ])
    | (refine rel_call (f := 66) (args := #[.float .f64 _, .agg #[.float .f64 _, .float .f64 _, .float .f64 _]]) (by rfl) rfl (callAt_func rfl Try.func66 (by kernel_rfl) (by kernel_rfl) rfl) (keeps_over (fun v h => h) fun x => rounded_walk _ _ _ _ _) ?_; rintro _ ⟨b1, b2, b3, rfl, g1, g2, g3⟩; have G := Lib.hid (v3_eq g1 g2 g3); clear g1 g2 g3; simp only [Act.put, List.setIfInBounds_toArray, List.set_cons_zero, List.set_cons_succ])
    | (refine rel_call (f := 65) (args := #[.agg #[.float .f64 _, .float .f64 _, .float .f64 _], .agg #[.float .f64 _, .float .f64 _, .float .f64 _]]) (by rfl) rfl (callAt_func rfl Try.func65 (by kernel_rfl) (by kernel_rfl) rfl) (keeps_over (fun v h => h) fun x => sum_walk _ _ _ _ _ _ _) ?_; rintro _ ⟨b1, b2, b3, rfl, g1, g2, g3⟩; have G := Lib.hid (v3_eq g1 g2 g3); clear g1 g2 g3; simp only [Act.put, List.setIfInBounds_toArray, List.set_cons_zero, List.set_cons_succ])
    | (refine rel_alloc (by rfl) rfl alloc41 ?_; intro k hk; have hk1 := hk.1; have hk2 := hk.2; clear hk; (try simp only [World.size_alloc, World.size_setCell, World.heap_drewN] at hk1); (try simp only [List.forall_mem_cons] at hk2); (try obtain ⟨hk2, hk3⟩ := hk2); (try obtain ⟨hk3, hk4⟩ := hk3); (try obtain ⟨hk4, hk5⟩ := hk4); simp only [Act.put, List.setIfInBounds_toArray, List.set_cons_zero, List.set_cons_succ])
    | (refine rel_plain (by rfl) rfl ?_; intro K hK; go_big_quiet_op; go_big_quiet_on)
    | (refine rel_skip (by rfl) ?_; simp only [Act.put, List.setIfInBounds_toArray, List.set_cons_zero, List.set_cons_succ]))
  refine Rel.wpRel_nil ?_
  intro w9 hB9 hG9
  clear c4 f4 c5 f5 c6 f6 c8 f8 c13 f13 c14 f14 c15 f15 c16 f16 c17 f17
  replace q4 := q4.below hB9
  replace q5 := q5.below hB9
  replace q6 := q6.below hB9
  replace q8 := q8.below hB9
  replace q13 := q13.below hB9
  replace q14 := q14.below hB9
  replace q15 := q15.below hB9
  replace q16 := q16.below hB9
  replace q17 := q17.below hB9
  simp only [Rel.holds, List.forall_mem_cons] at hG9
  obtain ⟨hx0, -⟩ := hG9
  have q18 := Known.held hx0
  clear hx0
  have m18 := q18.ge (n := w.heap.size) (by omega)
  replace HG : Hid (Below w.heap.size w w9) := Lib.hid (Grow.grow_trans HG.out hB9)
  replace HZ : w.heap.size ≤ w9.heap.size := Below.size HG.out
  clear hB9
  have c4 := q4.cell
  have f4 := q4.frozen
  have l4 := q4.lt
  have c5 := q5.cell
  have f5 := q5.frozen
  have l5 := q5.lt
  have c6 := q6.cell
  have f6 := q6.frozen
  have l6 := q6.lt
  have c8 := q8.cell
  have f8 := q8.frozen
  have l8 := q8.lt
  have c13 := q13.cell
  have f13 := q13.frozen
  have l13 := q13.lt
  have c14 := q14.cell
  have f14 := q14.frozen
  have l14 := q14.lt
  have c15 := q15.cell
  have f15 := q15.frozen
  have l15 := q15.lt
  have c16 := q16.cell
  have f16 := q16.frozen
  have l16 := q16.lt
  have c17 := q17.cell
  have f17 := q17.frozen
  have l17 := q17.lt
  have c18 := q18.cell
  have f18 := q18.frozen
  have l18 := q18.lt
  go_wp2
  refine Grow.seal_wp ?_
  intro W hW
  have HG2 : Hid (Below w.heap.size w W) := Lib.hid (by
    rw [hW.out]
    (repeat (with_reducible first
      | exact Grow.grow_refl _
      | refine Grow.grow_setCell ?_ ?_ _
      | refine Grow.grow_alloc ?_ _
      | refine Grow.grow_drewN ?_ _
      | refine Grow.grow_over ?_ _
      | refine Grow.grow_via (by assumption) ?_)) <;> omega)
  clear HG
  have HG := HG2
  clear HG2
  replace HZ : w.heap.size ≤ W.heap.size := Below.size HG.out
  clear c4 f4 c5 f5 c6 f6 c8 f8 c13 f13 c14 f14 c15 f15 c16 f16 c17 f17 c18 f18
  apply Grow.have_known (W := W)
  · rw [hW.out]
    apply Known.at q4
    (repeat (with_reducible first | exact q4 | apply Known.same | apply Known.other)) <;> omega
  clear q4
  intro q4
  (try simp only [List.setIfInBounds_toArray, List.set_cons_zero, List.set_cons_succ] at q4)
  apply Grow.have_known (W := W)
  · rw [hW.out]
    apply Known.at q5
    (repeat (with_reducible first | exact q5 | apply Known.same | apply Known.other)) <;> omega
  clear q5
  intro q5
  (try simp only [List.setIfInBounds_toArray, List.set_cons_zero, List.set_cons_succ] at q5)
  apply Grow.have_known (W := W)
  · rw [hW.out]
    apply Known.at q6
    (repeat (with_reducible first | exact q6 | apply Known.same | apply Known.other)) <;> omega
  clear q6
  intro q6
  (try simp only [List.setIfInBounds_toArray, List.set_cons_zero, List.set_cons_succ] at q6)
  apply Grow.have_known (W := W)
  · rw [hW.out]
    apply Known.at q8
    (repeat (with_reducible first | exact q8 | apply Known.same | apply Known.other)) <;> omega
  clear q8
  intro q8
  (try simp only [List.setIfInBounds_toArray, List.set_cons_zero, List.set_cons_succ] at q8)
  apply Grow.have_known (W := W)
  · rw [hW.out]
    apply Known.at q13
    (repeat (with_reducible first | exact q13 | apply Known.same | apply Known.other)) <;> omega
  clear q13
  intro q13
  (try simp only [List.setIfInBounds_toArray, List.set_cons_zero, List.set_cons_succ] at q13)
  apply Grow.have_known (W := W)
  · rw [hW.out]
    apply Known.at q14
    (repeat (with_reducible first | exact q14 | apply Known.same | apply Known.other)) <;> omega
  clear q14
  intro q14
  (try simp only [List.setIfInBounds_toArray, List.set_cons_zero, List.set_cons_succ] at q14)
  apply Grow.have_known (W := W)
  · rw [hW.out]
    apply Known.at q15
    (repeat (with_reducible first | exact q15 | apply Known.same | apply Known.other)) <;> omega
  clear q15
  intro q15
  (try simp only [List.setIfInBounds_toArray, List.set_cons_zero, List.set_cons_succ] at q15)
  apply Grow.have_known (W := W)
  · rw [hW.out]
    apply Known.at q16
    (repeat (with_reducible first | exact q16 | apply Known.same | apply Known.other)) <;> omega
  clear q16
  intro q16
  (try simp only [List.setIfInBounds_toArray, List.set_cons_zero, List.set_cons_succ] at q16)
  apply Grow.have_known (W := W)
  · rw [hW.out]
    apply Known.at q17
    (repeat (with_reducible first | exact q17 | apply Known.same | apply Known.other)) <;> omega
  clear q17
  intro q17
  (try simp only [List.setIfInBounds_toArray, List.set_cons_zero, List.set_cons_succ] at q17)
  apply Grow.have_known (W := W)
  · rw [hW.out]
    apply Known.at q18
    (repeat (with_reducible first | exact q18 | apply Known.same | apply Known.other)) <;> omega
  clear q18
  intro q18
  (try simp only [List.setIfInBounds_toArray, List.set_cons_zero, List.set_cons_succ] at q18)
  clear hW
  have c4 := q4.cell
  have f4 := q4.frozen
  have l4 := q4.lt
  have c5 := q5.cell
  have f5 := q5.frozen
  have l5 := q5.lt
  have c6 := q6.cell
  have f6 := q6.frozen
  have l6 := q6.lt
  have c8 := q8.cell
  have f8 := q8.frozen
  have l8 := q8.lt
  have c13 := q13.cell
  have f13 := q13.frozen
  have l13 := q13.lt
  have c14 := q14.cell
  have f14 := q14.frozen
  have l14 := q14.lt
  have c15 := q15.cell
  have f15 := q15.frozen
  have l15 := q15.lt
  have c16 := q16.cell
  have f16 := q16.frozen
  have l16 := q16.lt
  have c17 := q17.cell
  have f17 := q17.frozen
  have l17 := q17.lt
  have c18 := q18.cell
  have f18 := q18.frozen
  have l18 := q18.lt
  refine Rel.wp_region_rel_tail SpecG 18 (by kernel_rfl) (lexTailB_of_fast (by kernel_rfl) (by kernel_rfl) (by kernel_rfl)) ?_
  simp only [List.append_eq, List.cons_append, List.nil_append, List.take_succ_cons, List.take_zero, List.drop_succ_cons, List.drop_zero]
  repeat (first
    | (refine rel_arith (by rfl) rfl (by rfl) rfl rfl ?_; intro b1 H1; simp only [Act.put, List.setIfInBounds_toArray, List.set_cons_zero, List.set_cons_succ])
    | (refine rel_call (f := 63) (args := #[.agg #[.float .f64 _, .float .f64 _, .float .f64 _]]) (by rfl) rfl (callAt_func rfl Try.func63 (by kernel_rfl) (by kernel_rfl) rfl) (keeps_over (fun v h => h) fun x => length_walk _ _ _ _) ?_; rintro _ ⟨b, rfl, hb⟩; have H := Lib.hid hb; clear hb; simp only [Act.put, List.setIfInBounds_toArray, List.set_cons_zero, List.set_cons_succ])
    | (refine rel_call (f := 59) (args := #[.float .f64 _]) (by rfl) rfl (callAt_func rfl Try.func59 (by kernel_rfl) (by kernel_rfl) rfl) (keepsD_over (fun v h => h) fun x => root_walk _ _) ?_; rintro _ ⟨b, rfl, hb⟩; have H := Lib.hid hb; clear hb; simp only [Act.put, List.setIfInBounds_toArray, List.set_cons_zero, List.set_cons_succ])
    | (refine rel_call (f := 64) (args := #[.agg #[.float .f64 _, .float .f64 _, .float .f64 _], .agg #[.float .f64 _, .float .f64 _, .float .f64 _]]) (by rfl) rfl (callAt_func rfl Try.func64 (by kernel_rfl) (by kernel_rfl) rfl) (keeps_over (fun v h => h) fun x => cross_walk _ _ _ _ _ _ _) ?_; rintro _ ⟨b1, b2, b3, rfl, g1, g2, g3⟩; have G := Lib.hid (v3_eq g1 g2 g3); clear g1 g2 g3; simp only [Act.put, List.setIfInBounds_toArray, List.set_cons_zero, List.set_cons_succ])
    | (refine rel_call (f := 66) (args := #[.float .f64 _, .agg #[.float .f64 _, .float .f64 _, .float .f64 _]]) (by rfl) rfl (callAt_func rfl Try.func66 (by kernel_rfl) (by kernel_rfl) rfl) (keeps_over (fun v h => h) fun x => rounded_walk _ _ _ _ _) ?_; rintro _ ⟨b1, b2, b3, rfl, g1, g2, g3⟩; have G := Lib.hid (v3_eq g1 g2 g3); clear g1 g2 g3; simp only [Act.put, List.setIfInBounds_toArray, List.set_cons_zero, List.set_cons_succ])
    | (refine rel_call (f := 65) (args := #[.agg #[.float .f64 _, .float .f64 _, .float .f64 _], .agg #[.float .f64 _, .float .f64 _, .float .f64 _]]) (by rfl) rfl (callAt_func rfl Try.func65 (by kernel_rfl) (by kernel_rfl) rfl) (keeps_over (fun v h => h) fun x => sum_walk _ _ _ _ _ _ _) ?_; rintro _ ⟨b1, b2, b3, rfl, g1, g2, g3⟩; have G := Lib.hid (v3_eq g1 g2 g3); clear g1 g2 g3; simp only [Act.put, List.setIfInBounds_toArray, List.set_cons_zero, List.set_cons_succ])
    | (refine rel_call (f := 67) (args := #[.float .f64 _, .agg #[.float .f64 _, .float .f64 _, .float .f64 _]]) (by rfl) rfl (callAt_func rfl Try.func67 (by kernel_rfl) (by kernel_rfl) rfl) (keeps_over (fun v h => h) fun x => mtimes_walk _ _ _ _ _) ?_; rintro _ ⟨b1, b2, b3, rfl, g1, g2, g3⟩; have G := Lib.hid (v3_eq g1 g2 g3); clear g1 g2 g3; simp only [Act.put, List.setIfInBounds_toArray, List.set_cons_zero, List.set_cons_succ])
    | (refine rel_alloc (by rfl) rfl alloc41 ?_; intro k hk; have hk1 := hk.1; have hk2 := hk.2; clear hk; (try simp only [World.size_alloc, World.size_setCell, World.heap_drewN] at hk1); (try simp only [List.forall_mem_cons] at hk2); (try obtain ⟨hk2, hk3⟩ := hk2); (try obtain ⟨hk3, hk4⟩ := hk3); (try obtain ⟨hk4, hk5⟩ := hk4); simp only [Act.put, List.setIfInBounds_toArray, List.set_cons_zero, List.set_cons_succ])
    | (refine rel_plain (by rfl) rfl ?_; intro K hK; go_big_quiet_op; go_big_quiet_on)
    | (refine rel_skip (by rfl) ?_; simp only [Act.put, List.setIfInBounds_toArray, List.set_cons_zero, List.set_cons_succ]))
  refine Rel.wpRel_nil ?_
  intro w9 hB9 hG9
  clear c4 f4 c5 f5 c6 f6 c8 f8 c13 f13 c14 f14 c15 f15 c16 f16 c17 f17 c18 f18
  replace q4 := q4.below hB9
  replace q5 := q5.below hB9
  replace q6 := q6.below hB9
  replace q8 := q8.below hB9
  replace q13 := q13.below hB9
  replace q14 := q14.below hB9
  replace q15 := q15.below hB9
  replace q16 := q16.below hB9
  replace q17 := q17.below hB9
  replace q18 := q18.below hB9
  simp only [Rel.holds, List.forall_mem_cons] at hG9
  obtain ⟨hx0, -⟩ := hG9
  have q19 := Known.held hx0
  clear hx0
  have m19 := q19.ge (n := w.heap.size) (by omega)
  replace HG : Hid (Below w.heap.size w w9) := Lib.hid (Grow.grow_trans HG.out hB9)
  replace HZ : w.heap.size ≤ w9.heap.size := Below.size HG.out
  clear hB9
  have c4 := q4.cell
  have f4 := q4.frozen
  have l4 := q4.lt
  have c5 := q5.cell
  have f5 := q5.frozen
  have l5 := q5.lt
  have c6 := q6.cell
  have f6 := q6.frozen
  have l6 := q6.lt
  have c8 := q8.cell
  have f8 := q8.frozen
  have l8 := q8.lt
  have c13 := q13.cell
  have f13 := q13.frozen
  have l13 := q13.lt
  have c14 := q14.cell
  have f14 := q14.frozen
  have l14 := q14.lt
  have c15 := q15.cell
  have f15 := q15.frozen
  have l15 := q15.lt
  have c16 := q16.cell
  have f16 := q16.frozen
  have l16 := q16.lt
  have c17 := q17.cell
  have f17 := q17.frozen
  have l17 := q17.lt
  have c18 := q18.cell
  have f18 := q18.frozen
  have l18 := q18.lt
  have c19 := q19.cell
  have f19 := q19.frozen
  have l19 := q19.lt
  have GV : Hid (V3.mk (fl b1) (fl b2) (fl b3) = gibbsAt ⟨fl p1, fl p2, fl p3⟩ ⟨fl p4, fl p5, fl p6⟩ ⟨fl p7, fl p8, fl p9⟩ (fl kk)) := Lib.hid (by
    simp only [Hid, fop] at *
    simp only [gibbsAt, *])
  cases f1 : fin (fl b1) <;> cases f2 : fin (fl b2) <;> cases f3 : fin (fl b3)
  all_goals
    have F1 := Lib.hid f1
    have F2 := Lib.hid f2
    have F3 := Lib.hid f3
    clear f1 f2 f3
    go_wp2_with (go_at_call 61; refine (finite_walk _ _).mono ?_; rintro e w2 ⟨v, rfl, hv, n2, rfl⟩; simp only [F1.out, F2.out, F3.out] at hv; subst hv)
  all_goals
    apply bodyPost_ret
    · simp [results, Try.results23, go_sem, *]; rfl
    · rfl
    · refine Post.mk (T := IsG _) ?_ ?_
      · have gv := GV.out
        have e1 := F1.out
        have e2 := F2.out
        have e3 := F3.out
        rw [← gv]
        simp only [vfin, e1, e2, e3, Bool.and_true, Bool.true_and, Bool.and_false, Bool.false_and, if_true, Bool.false_eq_true, if_false]
        first
          | exact ⟨_, ⟨_, _, _, rfl, rfl, rfl, rfl⟩, rfl⟩
          | exact ⟨_, ⟨_, _, _, rfl, fl_zero, fl_zero, fl_zero⟩, rfl⟩
      · (repeat (with_reducible first
          | exact Grow.grow_refl _
          | refine Grow.grow_setCell ?_ ?_ _
          | refine Grow.grow_alloc ?_ _
          | refine Grow.grow_drewN ?_ _
          | refine Grow.grow_over ?_ _
          | refine Grow.grow_via (by assumption) ?_)) <;> omega

end Go.Proofs.Ytdnclgpjcgamgaa
