/- OrbitGibbs: the law's walk. -/
import Derived.Test.YtdnclgpjcgamgaaS8
import Derived.Test.YtdnclgpjcgamgaaS4
namespace Go.Proofs.Ytdnclgpjcgamgaa
open Go.RowKit Go.Fl Go.Grow

def gib0 : V3 × Bool := vfin (gibbsAt ⟨fl 4607182418800017408, fl 0, fl 0⟩ ⟨fl 0, fl 4607182418800017408, fl 0⟩ ⟨fl 13830554455654793216, fl 0, fl 0⟩ (fl 4607182418800017408))
theorem gib0_val : gib0.1.x = some 13830554455654793216 ∧ gib0.1.y = some 0 ∧ gib0.1.z = some 0 ∧ gib0.2 = true := by decide +kernel

set_option maxRecDepth 100000 in
set_option maxHeartbeats 16000000 in
theorem orbitGibbs_walk (p1 p2 p3 p4 p5 p6 p7 p8 p9 kk : Nat) (w : World) :
    Calls Try.prog 4 #[.agg #[.float .f64 p1, .float .f64 p2, .float .f64 p3], .agg #[.float .f64 p4, .float .f64 p5, .float .f64 p6], .agg #[.float .f64 p7, .float .f64 p8, .float .f64 p9], .float .f64 kk] w (Post (fun v => v = .bool true) w) := by
  have o1 : (FloatKind.f64.format.order 13830554455654793216 13829653735729319117 == some Ordering.gt) = false := by decide +kernel
  have o2 : (FloatKind.f64.format.order 13830554455654793216 13831004815617530266 == some Ordering.lt) = false := by decide +kernel
  cases hX : (vfin (gibbsAt ⟨fl p1, fl p2, fl p3⟩ ⟨fl p4, fl p5, fl p6⟩ ⟨fl p7, fl p8, fl p9⟩ (fl kk))).2
  all_goals
    have HX := Lib.hid hX
    clear hX
    have s0 := trivial
    go_enter Try.func4, Try.ntmps4
    go_wp2_with (first
      | (clear s0
         go_at_call 23
         refine Grow.seal_calls ?_
         intro W hW
         have HG : Hid (Below w.heap.size w W) := Lib.hid (by rw [hW.out]; (repeat (with_reducible first | exact Grow.grow_refl _ | refine Grow.grow_setCell ?_ ?_ _ | refine Grow.grow_alloc ?_ _ | refine Grow.grow_drewN ?_ _ | refine Grow.grow_over ?_ _ | refine Grow.grow_via (by assumption) ?_)) <;> omega)
         have HZ : w.heap.size ≤ W.heap.size := Below.size HG.out
         apply Grow.have_known (W := W)
         · rw [hW.out]; exact ((Known.new _ _ _).alloc _).alloc _
         intro q4
         (try simp only [World.size_alloc] at q4)
         apply Grow.have_known (W := W)
         · rw [hW.out]; exact (Known.new _ _ _).alloc _
         intro q5
         (try simp only [World.size_alloc] at q5)
         apply Grow.have_known (W := W)
         · rw [hW.out]; exact Known.new _ _ _
         intro q6
         (try simp only [World.size_alloc] at q6)
         clear hW
         refine (gibbs_walk _ _ _ _ _ _ _ _ _ _ _).mono ?_
         rintro e w1 hp
         obtain ⟨v, rfl, hp, hB⟩ := hp
         obtain ⟨q, ⟨b1, b2, b3, rfl, g1, g2, g3⟩, hv⟩ := hp
         obtain rfl := fl_some (g1.trans gib0_val.1); obtain rfl := fl_some (g2.trans gib0_val.2.1); obtain rfl := fl_some (g3.trans gib0_val.2.2.1); have hv2 := hv.trans (congrArg (fun X => Value.tuple #[_, .bool X]) gib0_val.2.2.2); subst hv2; clear g1 g2 g3
         replace q4 := q4.below hB
         replace q5 := q5.below hB
         replace q6 := q6.below hB
         replace HG : Hid (Below w.heap.size w w1) := Lib.hid (Grow.grow_trans HG.out hB)
         replace HZ : w.heap.size ≤ w1.heap.size := Below.size HG.out
         clear hB
         have c4 := q4.cell; have f4 := q4.frozen; have l4 := q4.lt
         have c5 := q5.cell; have f5 := q5.frozen; have l5 := q5.lt
         have c6 := q6.cell; have f6 := q6.frozen; have l6 := q6.lt
         have s1 := trivial)
      | (clear s1
         go_at_call 23
         refine Grow.seal_calls ?_
         intro W hW
         have HG2 : Hid (Below w.heap.size w W) := Lib.hid (by rw [hW.out]; (repeat (with_reducible first | exact Grow.grow_refl _ | refine Grow.grow_setCell ?_ ?_ _ | refine Grow.grow_alloc ?_ _ | refine Grow.grow_drewN ?_ _ | refine Grow.grow_over ?_ _ | refine Grow.grow_via (by assumption) ?_)) <;> omega)
         clear HG
         have HG := HG2
         clear HG2
         clear c4 f4 c5 f5 c6 f6
         apply Grow.have_known (W := W)
         · rw [hW.out]; apply Known.at q4; (repeat (with_reducible first | exact q4 | apply Known.same | apply Known.other | apply Known.alloc | apply Known.drewN)) <;> omega
         clear q4
         intro q4
         (try simp only [List.setIfInBounds_toArray, List.set_cons_zero, List.set_cons_succ] at q4)
         apply Grow.have_known (W := W)
         · rw [hW.out]; apply Known.at q5; (repeat (with_reducible first | exact q5 | apply Known.same | apply Known.other | apply Known.alloc | apply Known.drewN)) <;> omega
         clear q5
         intro q5
         (try simp only [List.setIfInBounds_toArray, List.set_cons_zero, List.set_cons_succ] at q5)
         apply Grow.have_known (W := W)
         · rw [hW.out]; apply Known.at q6; (repeat (with_reducible first | exact q6 | apply Known.same | apply Known.other | apply Known.alloc | apply Known.drewN)) <;> omega
         clear q6
         intro q6
         (try simp only [List.setIfInBounds_toArray, List.set_cons_zero, List.set_cons_succ] at q6)
         apply Grow.have_known (W := W) (b := w1.heap.size)
         · rw [hW.out]; (repeat (with_reducible first | exact Known.new _ _ _ | apply Known.same | apply Known.other | apply Known.alloc | apply Known.drewN)) <;> omega
         intro q9
         (try simp only [List.setIfInBounds_toArray, List.set_cons_zero, List.set_cons_succ] at q9)
         have m9 := q9.ge (n := w.heap.size) (by omega)
         replace HZ : w.heap.size ≤ W.heap.size := Below.size HG.out
         clear hW
         refine (gibbs_walk _ _ _ _ _ _ _ _ _ _ _).mono ?_
         rintro e w1 hp
         obtain ⟨v, rfl, hp, hB⟩ := hp
         obtain ⟨q, ⟨b1, b2, b3, rfl, g1, g2, g3⟩, hv⟩ := hp
         rw [HX.out] at hv; subst hv; have G1 := Lib.hid g1; have G2 := Lib.hid g2; have G3 := Lib.hid g3; clear g1 g2 g3
         replace q4 := q4.below hB
         replace q5 := q5.below hB
         replace q6 := q6.below hB
         replace q9 := q9.below hB
         replace HG : Hid (Below w.heap.size w w1) := Lib.hid (Grow.grow_trans HG.out hB)
         replace HZ : w.heap.size ≤ w1.heap.size := Below.size HG.out
         clear hB
         have c4 := q4.cell; have f4 := q4.frozen; have l4 := q4.lt
         have c5 := q5.cell; have f5 := q5.frozen; have l5 := q5.lt
         have c6 := q6.cell; have f6 := q6.frozen; have l6 := q6.lt
         have c9 := q9.cell; have f9 := q9.frozen; have l9 := q9.lt
         have s2 := trivial)
      | (clear s2
         go_at_call 24
         refine Grow.seal_calls ?_
         intro W hW
         have HG2 : Hid (Below w.heap.size w W) := Lib.hid (by rw [hW.out]; (repeat (with_reducible first | exact Grow.grow_refl _ | refine Grow.grow_setCell ?_ ?_ _ | refine Grow.grow_alloc ?_ _ | refine Grow.grow_drewN ?_ _ | refine Grow.grow_over ?_ _ | refine Grow.grow_via (by assumption) ?_)) <;> omega)
         clear HG
         have HG := HG2
         clear HG2
         clear c4 f4 c5 f5 c6 f6 c9 f9
         apply Grow.have_known (W := W)
         · rw [hW.out]; apply Known.at q4; (repeat (with_reducible first | exact q4 | apply Known.same | apply Known.other | apply Known.alloc | apply Known.drewN)) <;> omega
         clear q4
         intro q4
         (try simp only [List.setIfInBounds_toArray, List.set_cons_zero, List.set_cons_succ] at q4)
         apply Grow.have_known (W := W)
         · rw [hW.out]; apply Known.at q5; (repeat (with_reducible first | exact q5 | apply Known.same | apply Known.other | apply Known.alloc | apply Known.drewN)) <;> omega
         clear q5
         intro q5
         (try simp only [List.setIfInBounds_toArray, List.set_cons_zero, List.set_cons_succ] at q5)
         apply Grow.have_known (W := W)
         · rw [hW.out]; apply Known.at q6; (repeat (with_reducible first | exact q6 | apply Known.same | apply Known.other | apply Known.alloc | apply Known.drewN)) <;> omega
         clear q6
         intro q6
         (try simp only [List.setIfInBounds_toArray, List.set_cons_zero, List.set_cons_succ] at q6)
         apply Grow.have_known (W := W)
         · rw [hW.out]; apply Known.at q9; (repeat (with_reducible first | exact q9 | apply Known.same | apply Known.other | apply Known.alloc | apply Known.drewN)) <;> omega
         clear q9
         intro q9
         (try simp only [List.setIfInBounds_toArray, List.set_cons_zero, List.set_cons_succ] at q9)
         replace HZ : w.heap.size ≤ W.heap.size := Below.size HG.out
         clear hW
         refine (gibbsOf_walk _ _ _ _ _ _ _ _ _ _ _).mono ?_
         rintro e w1 hp
         obtain ⟨v, rfl, hp, hB⟩ := hp
         obtain ⟨q, ⟨c1, c2, c3, rfl, k1, k2, k3⟩, hv⟩ := hp
         rw [HX.out] at hv; subst hv; have K1 := Lib.hid k1; have K2 := Lib.hid k2; have K3 := Lib.hid k3; clear k1 k2 k3
         replace q4 := q4.below hB
         replace q5 := q5.below hB
         replace q6 := q6.below hB
         replace q9 := q9.below hB
         replace HG : Hid (Below w.heap.size w w1) := Lib.hid (Grow.grow_trans HG.out hB)
         replace HZ : w.heap.size ≤ w1.heap.size := Below.size HG.out
         clear hB
         have c4 := q4.cell; have f4 := q4.frozen; have l4 := q4.lt
         have c5 := q5.cell; have f5 := q5.frozen; have l5 := q5.lt
         have c6 := q6.cell; have f6 := q6.frozen; have l6 := q6.lt
         have c9 := q9.cell; have f9 := q9.frozen; have l9 := q9.lt
         have s3 := trivial)
      | (clear s3
         go_at_call 25
         refine Grow.seal_calls ?_
         intro W hW
         have HG2 : Hid (Below w.heap.size w W) := Lib.hid (by rw [hW.out]; (repeat (with_reducible first | exact Grow.grow_refl _ | refine Grow.grow_setCell ?_ ?_ _ | refine Grow.grow_alloc ?_ _ | refine Grow.grow_drewN ?_ _ | refine Grow.grow_over ?_ _ | refine Grow.grow_via (by assumption) ?_)) <;> omega)
         clear HG
         have HG := HG2
         clear HG2
         clear c4 f4 c5 f5 c6 f6 c9 f9
         apply Grow.have_known (W := W)
         · rw [hW.out]; apply Known.at q4; (repeat (with_reducible first | exact q4 | apply Known.same | apply Known.other | apply Known.alloc | apply Known.drewN)) <;> omega
         clear q4
         intro q4
         (try simp only [List.setIfInBounds_toArray, List.set_cons_zero, List.set_cons_succ] at q4)
         apply Grow.have_known (W := W)
         · rw [hW.out]; apply Known.at q5; (repeat (with_reducible first | exact q5 | apply Known.same | apply Known.other | apply Known.alloc | apply Known.drewN)) <;> omega
         clear q5
         intro q5
         (try simp only [List.setIfInBounds_toArray, List.set_cons_zero, List.set_cons_succ] at q5)
         apply Grow.have_known (W := W)
         · rw [hW.out]; apply Known.at q6; (repeat (with_reducible first | exact q6 | apply Known.same | apply Known.other | apply Known.alloc | apply Known.drewN)) <;> omega
         clear q6
         intro q6
         (try simp only [List.setIfInBounds_toArray, List.set_cons_zero, List.set_cons_succ] at q6)
         apply Grow.have_known (W := W)
         · rw [hW.out]; apply Known.at q9; (repeat (with_reducible first | exact q9 | apply Known.same | apply Known.other | apply Known.alloc | apply Known.drewN)) <;> omega
         clear q9
         intro q9
         (try simp only [List.setIfInBounds_toArray, List.set_cons_zero, List.set_cons_succ] at q9)
         apply Grow.have_known (W := W) (b := w1.heap.size)
         · rw [hW.out]; (repeat (with_reducible first | exact Known.new _ _ _ | apply Known.same | apply Known.other | apply Known.alloc | apply Known.drewN)) <;> omega
         intro q11
         (try simp only [List.setIfInBounds_toArray, List.set_cons_zero, List.set_cons_succ] at q11)
         have m11 := q11.ge (n := w.heap.size) (by omega)
         replace HZ : w.heap.size ≤ W.heap.size := Below.size HG.out
         clear hW
         refine (sameVec_walk _ _ _ _ _ _ (G1.out.trans K1.out.symm) (G2.out.trans K2.out.symm) (G3.out.trans K3.out.symm) _).mono ?_
         rintro e w1 hp
         obtain ⟨v, rfl, hp, hB⟩ := hp
         subst hp
         skip
         replace q4 := q4.below hB
         replace q5 := q5.below hB
         replace q6 := q6.below hB
         replace q9 := q9.below hB
         replace q11 := q11.below hB
         replace HG : Hid (Below w.heap.size w w1) := Lib.hid (Grow.grow_trans HG.out hB)
         replace HZ : w.heap.size ≤ w1.heap.size := Below.size HG.out
         clear hB
         have c4 := q4.cell; have f4 := q4.frozen; have l4 := q4.lt
         have c5 := q5.cell; have f5 := q5.frozen; have l5 := q5.lt
         have c6 := q6.cell; have f6 := q6.frozen; have l6 := q6.lt
         have c9 := q9.cell; have f9 := q9.frozen; have l9 := q9.lt
         have c11 := q11.cell; have f11 := q11.frozen; have l11 := q11.lt
         have s4 := trivial))
    go_ret
    refine Post.mk (T := fun v => v = _) (by simp) ?_
    (repeat (with_reducible first
          | exact Grow.grow_refl _
          | refine Grow.grow_setCell ?_ ?_ _
          | refine Grow.grow_alloc ?_ _
          | refine Grow.grow_drewN ?_ _
          | refine Grow.grow_over ?_ _
          | refine Grow.grow_via (by assumption) ?_)) <;> omega

end Go.Proofs.Ytdnclgpjcgamgaa
