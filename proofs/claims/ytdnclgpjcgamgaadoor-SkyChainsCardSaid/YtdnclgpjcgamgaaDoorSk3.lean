/- Turns about an axis: the program's and the document's. -/
import Derived.Test.YtdnclgpjcgamgaaDoorSk1
set_option linter.unusedSimpArgs false
set_option linter.unusedVariables false
namespace Go.Proofs.YtdnclgpjcgamgaaDoor
open Go.RowKit Go.Fl Go.Grow Go.Tr

theorem known_at {w : World} {c : Array Value} {t : TypeId} {b : Nat} (h : b = w.heap.size) : Known (w.alloc (.cells c t)) b c := h ▸ Known.new w c t
/-- Two numbers. -/
def IsF2 (X Y : Option Nat) (v : Value) : Prop := ∃ x y, v = .tuple #[.float .f64 x, .float .f64 y] ∧ fl x = X ∧ fl y = Y
def SpecN : FuncId → Array Value → Value → Prop := fun _ _ _ => False

set_option maxRecDepth 100000 in
set_option maxHeartbeats 4000000 in
theorem pair_walk (a b c s kb sb : Nat) (w : World) (q1 : Known w kb #[.float .f64 c]) (q2 : Known w sb #[.float .f64 s]) : Calls Tryd.prog 38 #[.float .f64 a, .float .f64 b, .pointer (some ⟨kb, 0, none⟩), .pointer (some ⟨sb, 0, none⟩)] w
    (Post (IsF2 (fsub (fmul (fl a) (fl c)) (fmul (fl b) (fl s))) (fadd (fmul (fl a) (fl s)) (fmul (fl b) (fl c)))) w) := by
  have HG : Hid (Below w.heap.size w w) := Lib.hid (Grow.grow_refl w)
  have HZ : w.heap.size ≤ w.heap.size := Nat.le_refl _
  have c1 := q1.cell
  have f1 := q1.frozen
  have l1 := q1.lt
  have c2 := q2.cell
  have f2 := q2.frozen
  have l2 := q2.lt
  go_enter Tryd.func38, Tryd.ntmps38
  go_wp2
  refine Rel.wp_region_rel SpecN (by kernel_rfl) (lexB_of_fast (by kernel_rfl) (by kernel_rfl)) ?_
  repeat (first
    | (refine rel_arith (by rfl) rfl (by rfl) rfl rfl ?_; intro b1 H1; simp only [Act.put, List.setIfInBounds_toArray, List.set_cons_zero, List.set_cons_succ])
    | (refine rel_plain (by rfl) rfl ?_; intro K hK; go_big_quiet_op; go_big_quiet_on)
    | (refine rel_skip (by rfl) ?_; simp only [Act.put, List.setIfInBounds_toArray, List.set_cons_zero, List.set_cons_succ]))
  refine Rel.wpRel_nil ?_
  intro w9 hB9 hG9
  clear c1 f1 c2 f2
  replace q1 := q1.below hB9
  replace q2 := q2.below hB9
  clear hG9
  replace HG : Hid (Below w.heap.size w w9) := Lib.hid (Grow.grow_trans HG.out hB9)
  replace HZ : w.heap.size ≤ w9.heap.size := Below.size HG.out
  clear hB9
  have c1 := q1.cell
  have f1 := q1.frozen
  have l1 := q1.lt
  have c2 := q2.cell
  have f2 := q2.frozen
  have l2 := q2.lt
  go_wp2
  apply bodyPost_ret
  · simp [results, Tryd.results38, go_sem, *]; rfl
  · rfl
  · refine Post.mk (T := IsF2 _ _) ⟨_, _, rfl, ?_, ?_⟩ ?_
    · simp only [Hid, fop] at *
      simp only [*]
    · simp only [Hid, fop] at *
      simp only [*]
    · (repeat (with_reducible first
        | exact Grow.grow_refl _
        | refine Grow.grow_setCell ?_ ?_ _
        | refine Grow.grow_alloc ?_ _
        | refine Grow.grow_drewN ?_ _
        | refine Grow.grow_over ?_ _
        | refine Grow.grow_via (by assumption) ?_)) <;> omega

set_option maxRecDepth 100000 in
set_option maxHeartbeats 8000000 in
theorem turn_walk (ax k : Int) (h : ax = 0 ∨ ax = 1 ∨ ax = 2) (a b c0 : Nat) (w : World) : Calls Tryd.prog 27 #[.int .i64 ax, .int .i64 k, .agg #[.float .f64 a, .float .f64 b, .float .f64 c0]] w (Post (IsV (Fe.trF ax k ⟨fl a, fl b, fl c0⟩)) w) := by
  have s0 := trivial
  rcases h with rfl | rfl | rfl
  all_goals
    go_enter Tryd.func27, Tryd.ntmps27
    go_wp2_with (first
      | (clear s0
         go_at_call 37
         refine Grow.seal_calls ?_
         intro W hW
         have HG : Hid (Below w.heap.size w W) := Lib.hid (by rw [hW.out]; (repeat (with_reducible first | exact Grow.grow_refl _ | refine Grow.grow_setCell ?_ ?_ _ | refine Grow.grow_alloc ?_ _ | refine Grow.grow_drewN ?_ _ | refine Grow.grow_over ?_ _ | refine Grow.grow_via (by assumption) ?_)) <;> omega)
         have HZ : w.heap.size ≤ W.heap.size := Below.size HG.out
         apply Grow.have_known (W := W)
         · rw [hW.out]; exact (Known.new _ _ _).alloc _
         intro q5
         (try simp only [World.size_alloc] at q5)
         apply Grow.have_known (W := W)
         · rw [hW.out]; exact Known.new _ _ _
         intro q6
         (try simp only [World.size_alloc] at q6)
         clear hW
         refine (cos_walk _ _).mono ?_
         rintro e w1 hp
         obtain ⟨v, rfl, hp, hB⟩ := hp
         obtain ⟨c, rfl, hb⟩ := hp
         have HC := Lib.hid hb; clear hb
         replace q5 := q5.below hB
         replace q6 := q6.below hB
         replace HG : Hid (Below w.heap.size w w1) := Lib.hid (Grow.grow_trans HG.out hB)
         replace HZ : w.heap.size ≤ w1.heap.size := Below.size HG.out
         clear hB
         have c5 := q5.cell; have f5 := q5.frozen; have l5 := q5.lt
         have c6 := q6.cell; have f6 := q6.frozen; have l6 := q6.lt
         have s1 := trivial)
      | (clear s1
         go_at_call 21
         refine Grow.seal_calls ?_
         intro W hW
         have HG2 : Hid (Below w.heap.size w W) := Lib.hid (by rw [hW.out]; (repeat (with_reducible first | exact Grow.grow_refl _ | refine Grow.grow_setCell ?_ ?_ _ | refine Grow.grow_alloc ?_ _ | refine Grow.grow_drewN ?_ _ | refine Grow.grow_over ?_ _ | refine Grow.grow_via (by assumption) ?_)) <;> omega)
         clear HG
         have HG := HG2
         clear HG2
         clear c5 f5 c6 f6
         apply Grow.have_known (W := W)
         · rw [hW.out]; apply Known.at q5; (repeat (with_reducible first | exact q5 | apply Known.same | apply Known.other | apply Known.alloc | apply Known.drewN)) <;> omega
         clear q5
         intro q5
         (try simp only [List.setIfInBounds_toArray, List.set_cons_zero, List.set_cons_succ] at q5)
         apply Grow.have_known (W := W)
         · rw [hW.out]; apply Known.at q6; (repeat (with_reducible first | exact q6 | apply Known.same | apply Known.other | apply Known.alloc | apply Known.drewN)) <;> omega
         clear q6
         intro q6
         (try simp only [List.setIfInBounds_toArray, List.set_cons_zero, List.set_cons_succ] at q6)
         replace HZ : w.heap.size ≤ W.heap.size := Below.size HG.out
         clear hW
         refine (sin_walk _ _).mono ?_
         rintro e w1 hp
         obtain ⟨v, rfl, hp, hB⟩ := hp
         obtain ⟨s, rfl, hb⟩ := hp
         have HS := Lib.hid hb; clear hb
         replace q5 := q5.below hB
         replace q6 := q6.below hB
         replace HG : Hid (Below w.heap.size w w1) := Lib.hid (Grow.grow_trans HG.out hB)
         replace HZ : w.heap.size ≤ w1.heap.size := Below.size HG.out
         clear hB
         have c5 := q5.cell; have f5 := q5.frozen; have l5 := q5.lt
         have c6 := q6.cell; have f6 := q6.frozen; have l6 := q6.lt
         have s2 := trivial)
      | (clear s2
         go_at_call 38
         refine Grow.seal_calls ?_
         intro W hW
         have HG2 : Hid (Below w.heap.size w W) := Lib.hid (by rw [hW.out]; (repeat (with_reducible first | exact Grow.grow_refl _ | refine Grow.grow_setCell ?_ ?_ _ | refine Grow.grow_alloc ?_ _ | refine Grow.grow_drewN ?_ _ | refine Grow.grow_over ?_ _ | refine Grow.grow_via (by assumption) ?_)) <;> omega)
         clear HG
         have HG := HG2
         clear HG2
         clear c5 f5 c6 f6
         apply Grow.have_known (W := W)
         · rw [hW.out]; apply Known.at q5; (repeat (with_reducible first | exact q5 | apply Known.same | apply Known.other | apply Known.alloc | apply Known.drewN)) <;> omega
         clear q5
         intro q5
         (try simp only [List.setIfInBounds_toArray, List.set_cons_zero, List.set_cons_succ] at q5)
         apply Grow.have_known (W := W)
         · rw [hW.out]; apply Known.at q6; (repeat (with_reducible first | exact q6 | apply Known.same | apply Known.other | apply Known.alloc | apply Known.drewN)) <;> omega
         clear q6
         intro q6
         (try simp only [List.setIfInBounds_toArray, List.set_cons_zero, List.set_cons_succ] at q6)
         apply Grow.have_known (W := W) (b := w1.heap.size)
         · rw [hW.out]; (repeat (with_reducible first | exact Known.new _ _ _ | (refine known_at ?_; simp; done) | apply Known.same | apply Known.other | apply Known.alloc | apply Known.drewN)) <;> omega
         intro q7
         (try simp only [World.size_alloc, World.size_setCell, World.heap_drewN] at q7)
         (try simp only [List.setIfInBounds_toArray, List.set_cons_zero, List.set_cons_succ] at q7)
         have m7 := q7.ge (n := w.heap.size) (by omega)
         apply Grow.have_known (W := W) (b := (w1.heap.size + 1))
         · rw [hW.out]; (repeat (with_reducible first | exact Known.new _ _ _ | (refine known_at ?_; simp; done) | apply Known.same | apply Known.other | apply Known.alloc | apply Known.drewN)) <;> omega
         intro q8
         (try simp only [World.size_alloc, World.size_setCell, World.heap_drewN] at q8)
         (try simp only [List.setIfInBounds_toArray, List.set_cons_zero, List.set_cons_succ] at q8)
         have m8 := q8.ge (n := w.heap.size) (by omega)
         replace HZ : w.heap.size ≤ W.heap.size := Below.size HG.out
         clear hW
         refine (pair_walk _ _ _ _ _ _ _ q7 q8).mono ?_
         rintro e w1 hp
         obtain ⟨v, rfl, hp, hB⟩ := hp
         obtain ⟨x, y, rfl, hx, hy⟩ := hp
         have HX := Lib.hid hx; have HY := Lib.hid hy; clear hx hy
         replace q5 := q5.below hB
         replace q6 := q6.below hB
         replace q7 := q7.below hB
         replace q8 := q8.below hB
         replace HG : Hid (Below w.heap.size w w1) := Lib.hid (Grow.grow_trans HG.out hB)
         replace HZ : w.heap.size ≤ w1.heap.size := Below.size HG.out
         clear hB
         have c5 := q5.cell; have f5 := q5.frozen; have l5 := q5.lt
         have c6 := q6.cell; have f6 := q6.frozen; have l6 := q6.lt
         have c7 := q7.cell; have f7 := q7.frozen; have l7 := q7.lt
         have c8 := q8.cell; have f8 := q8.frozen; have l8 := q8.lt
         have s3 := trivial))
    apply bodyPost_ret
    · simp [results, Tryd.results27, go_sem, *]; rfl
    · rfl
    · refine Post.mk (T := IsV _) ⟨_, _, _, rfl, ?_, ?_, ?_⟩ ?_
      · simp [Fe.trF, HX.out, HY.out, HC.out, HS.out]
      · simp [Fe.trF, HX.out, HY.out, HC.out, HS.out]
      · simp [Fe.trF, HX.out, HY.out, HC.out, HS.out]
      · (repeat (with_reducible first
          | exact Grow.grow_refl _
          | refine Grow.grow_setCell ?_ ?_ _
          | refine Grow.grow_alloc ?_ _
          | refine Grow.grow_drewN ?_ _
          | refine Grow.grow_over ?_ _
          | refine Grow.grow_via (by assumption) ?_)) <;> omega

end Go.Proofs.YtdnclgpjcgamgaaDoor
