/- Turns about an axis: the document's. -/
import Derived.Test.YtdnclgpjcgamgaaDoorSk3
set_option linter.unusedSimpArgs false
set_option linter.unusedVariables false
namespace Go.Proofs.YtdnclgpjcgamgaaDoor
open Go.RowKit Go.Fl Go.Grow Go.Tr

set_option maxRecDepth 100000 in
set_option maxHeartbeats 8000000 in
theorem turnBy_walk (ax k : Int) (h : ax = 0 ∨ ax = 1 ∨ ax = 2) (a b c0 : Nat) (w : World) : Calls Tryd.prog 16 #[.agg #[.int .i64 ax, .int .i64 k], .agg #[.float .f64 a, .float .f64 b, .float .f64 c0]] w (Post (IsV (Fe.trF ax k ⟨fl a, fl b, fl c0⟩)) w) := by
  have s0 := trivial
  have a0 := trivial
  rcases h with rfl | rfl | rfl
  all_goals
    go_enter Tryd.func16, Tryd.ntmps16
    go_wp2_with (first
      | (clear a0; refine wpList_arith rfl rfl (by rfl) rfl rfl ?_; intro m1 k1 M1; have a1 := trivial)
      | (clear a1; refine wpList_arith rfl rfl (by rfl) rfl rfl ?_; intro m2 k2 M2; have a2 := trivial)
      | (clear s0
         go_at_call 7
         refine Grow.seal_calls ?_
         intro W hW
         have HG : Hid (Below w.heap.size w W) := Lib.hid (by rw [hW.out]; (repeat (with_reducible first | exact Grow.grow_refl _ | refine Grow.grow_setCell ?_ ?_ _ | refine Grow.grow_alloc ?_ _ | refine Grow.grow_drewN ?_ _ | refine Grow.grow_over ?_ _ | refine Grow.grow_via (by assumption) ?_)) <;> omega)
         have HZ : w.heap.size ≤ W.heap.size := Below.size HG.out
         apply Grow.have_known (W := W)
         · rw [hW.out]; exact ((Known.new _ _ _).alloc _).alloc _
         intro q2
         (try simp only [World.size_alloc] at q2)
         apply Grow.have_known (W := W)
         · rw [hW.out]; exact (Known.new _ _ _).alloc _
         intro q3
         (try simp only [World.size_alloc] at q3)
         apply Grow.have_known (W := W)
         · rw [hW.out]; exact Known.new _ _ _
         intro q4
         (try simp only [World.size_alloc] at q4)
         clear hW
         refine (sinCos_walk _ _).mono ?_
         rintro e w1 hp
         obtain ⟨v, rfl, hp, hB⟩ := hp
         have hz := hp; clear hp
         obtain ⟨zs, zc, rfl, hs, hc⟩ := hz; have HS := Lib.hid hs; have HC := Lib.hid hc; clear hs hc
         replace q2 := q2.below hB
         replace q3 := q3.below hB
         replace q4 := q4.below hB
         replace HG : Hid (Below w.heap.size w w1) := Lib.hid (Grow.grow_trans HG.out hB)
         replace HZ : w.heap.size ≤ w1.heap.size := Below.size HG.out
         clear hB
         have c2 := q2.cell; have f2 := q2.frozen; have l2 := q2.lt
         have c3 := q3.cell; have f3 := q3.frozen; have l3 := q3.lt
         have c4 := q4.cell; have f4 := q4.frozen; have l4 := q4.lt
         have s1 := trivial)
      | (clear s1
         go_at_call 23
         refine Grow.seal_calls ?_
         intro W hW
         have HG2 : Hid (Below w.heap.size w W) := Lib.hid (by rw [hW.out]; (repeat (with_reducible first | exact Grow.grow_refl _ | refine Grow.grow_setCell ?_ ?_ _ | refine Grow.grow_alloc ?_ _ | refine Grow.grow_drewN ?_ _ | refine Grow.grow_over ?_ _ | refine Grow.grow_via (by assumption) ?_)) <;> omega)
         clear HG
         have HG := HG2
         clear HG2
         clear c2 f2 c3 f3 c4 f4
         apply Grow.have_known (W := W)
         · rw [hW.out]; apply Known.at q2; (repeat (with_reducible first | exact q2 | apply Known.same | apply Known.other | apply Known.alloc | apply Known.drewN)) <;> omega
         clear q2
         intro q2
         (try simp only [List.setIfInBounds_toArray, List.set_cons_zero, List.set_cons_succ] at q2)
         apply Grow.have_known (W := W)
         · rw [hW.out]; apply Known.at q3; (repeat (with_reducible first | exact q3 | apply Known.same | apply Known.other | apply Known.alloc | apply Known.drewN)) <;> omega
         clear q3
         intro q3
         (try simp only [List.setIfInBounds_toArray, List.set_cons_zero, List.set_cons_succ] at q3)
         apply Grow.have_known (W := W)
         · rw [hW.out]; apply Known.at q4; (repeat (with_reducible first | exact q4 | apply Known.same | apply Known.other | apply Known.alloc | apply Known.drewN)) <;> omega
         clear q4
         intro q4
         (try simp only [List.setIfInBounds_toArray, List.set_cons_zero, List.set_cons_succ] at q4)
         replace HZ : w.heap.size ≤ W.heap.size := Below.size HG.out
         clear hW
         refine (less_walk _ _ _ _).mono ?_
         rintro e w1 hp
         obtain ⟨v, rfl, hp, hB⟩ := PostD.post hp
         obtain ⟨n1, rfl, hb⟩ := hp
         have HL := Lib.hid hb; clear hb
         replace q2 := q2.below hB
         replace q3 := q3.below hB
         replace q4 := q4.below hB
         replace HG : Hid (Below w.heap.size w w1) := Lib.hid (Grow.grow_trans HG.out hB)
         replace HZ : w.heap.size ≤ w1.heap.size := Below.size HG.out
         clear hB
         have c2 := q2.cell; have f2 := q2.frozen; have l2 := q2.lt
         have c3 := q3.cell; have f3 := q3.frozen; have l3 := q3.lt
         have c4 := q4.cell; have f4 := q4.frozen; have l4 := q4.lt
         have s2 := trivial)
      | (clear s2
         go_at_call 29
         refine Grow.seal_calls ?_
         intro W hW
         have HG2 : Hid (Below w.heap.size w W) := Lib.hid (by rw [hW.out]; (repeat (with_reducible first | exact Grow.grow_refl _ | refine Grow.grow_setCell ?_ ?_ _ | refine Grow.grow_alloc ?_ _ | refine Grow.grow_drewN ?_ _ | refine Grow.grow_over ?_ _ | refine Grow.grow_via (by assumption) ?_)) <;> omega)
         clear HG
         have HG := HG2
         clear HG2
         clear c2 f2 c3 f3 c4 f4
         apply Grow.have_known (W := W)
         · rw [hW.out]; apply Known.at q2; (repeat (with_reducible first | exact q2 | apply Known.same | apply Known.other | apply Known.alloc | apply Known.drewN)) <;> omega
         clear q2
         intro q2
         (try simp only [List.setIfInBounds_toArray, List.set_cons_zero, List.set_cons_succ] at q2)
         apply Grow.have_known (W := W)
         · rw [hW.out]; apply Known.at q3; (repeat (with_reducible first | exact q3 | apply Known.same | apply Known.other | apply Known.alloc | apply Known.drewN)) <;> omega
         clear q3
         intro q3
         (try simp only [List.setIfInBounds_toArray, List.set_cons_zero, List.set_cons_succ] at q3)
         apply Grow.have_known (W := W)
         · rw [hW.out]; apply Known.at q4; (repeat (with_reducible first | exact q4 | apply Known.same | apply Known.other | apply Known.alloc | apply Known.drewN)) <;> omega
         clear q4
         intro q4
         (try simp only [List.setIfInBounds_toArray, List.set_cons_zero, List.set_cons_succ] at q4)
         replace HZ : w.heap.size ≤ W.heap.size := Below.size HG.out
         clear hW
         refine (plusRef_walk _ _ _ _).mono ?_
         rintro e w1 hp
         obtain ⟨v, rfl, hp, hB⟩ := PostD.post hp
         obtain ⟨n2, rfl, hb⟩ := hp
         have HP := Lib.hid hb; clear hb
         replace q2 := q2.below hB
         replace q3 := q3.below hB
         replace q4 := q4.below hB
         replace HG : Hid (Below w.heap.size w w1) := Lib.hid (Grow.grow_trans HG.out hB)
         replace HZ : w.heap.size ≤ w1.heap.size := Below.size HG.out
         clear hB
         have c2 := q2.cell; have f2 := q2.frozen; have l2 := q2.lt
         have c3 := q3.cell; have f3 := q3.frozen; have l3 := q3.lt
         have c4 := q4.cell; have f4 := q4.frozen; have l4 := q4.lt
         have s3 := trivial))
    apply bodyPost_ret
    · simp [results, Tryd.results16, go_sem, *]; rfl
    · rfl
    · refine Post.mk (T := IsV _) ⟨_, _, _, rfl, ?_, ?_, ?_⟩ ?_
      · simp only [Hid, fop] at *
        simp [Fe.trF, mns, pls, *]
      · simp only [Hid, fop] at *
        simp [Fe.trF, mns, pls, *]
      · simp only [Hid, fop] at *
        simp [Fe.trF, mns, pls, *]
      · (repeat (with_reducible first
          | exact Grow.grow_refl _
          | refine Grow.grow_setCell ?_ ?_ _
          | refine Grow.grow_alloc ?_ _
          | refine Grow.grow_drewN ?_ _
          | refine Grow.grow_over ?_ _
          | refine Grow.grow_via (by assumption) ?_)) <;> omega

end Go.Proofs.YtdnclgpjcgamgaaDoor
