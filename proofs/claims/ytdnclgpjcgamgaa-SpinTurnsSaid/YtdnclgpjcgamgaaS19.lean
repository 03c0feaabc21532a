/- SpinTurns: the law's walk. -/
import Derived.Test.YtdnclgpjcgamgaaS18
set_option linter.unusedSimpArgs false
set_option linter.unusedVariables false
namespace Go.Proofs.Ytdnclgpjcgamgaa
open Go.RowKit Go.Fl Go.Grow Go.Tr

theorem m3_eq {a b c d e f g h i : Nat} {X : M3} (h1 : fl a = X.a.x) (h2 : fl b = X.a.y) (h3 : fl c = X.a.z) (h4 : fl d = X.b.x) (h5 : fl e = X.b.y) (h6 : fl f = X.b.z) (h7 : fl g = X.c.x) (h8 : fl h = X.c.y) (h9 : fl i = X.c.z) :
    M3.mk ⟨fl a, fl b, fl c⟩ ⟨fl d, fl e, fl f⟩ ⟨fl g, fl h, fl i⟩ = X := by rw [h1, h2, h3, h4, h5, h6, h7, h8, h9]
/-- What the callees give. -/
def SpecTurns : FuncId → Array Value → Value → Prop
  | 14, ⟨[q]⟩, v => v = q
  | 25, _, v => v = .bool true
  | 32, ⟨[.agg ⟨[.float .f64 e, .float .f64 f, .float .f64 g, .float .f64 h]⟩, .agg ⟨[.float .f64 a, .float .f64 b, .float .f64 c]⟩]⟩, v => IsV (app (mat ⟨fl e, fl f, fl g, fl h⟩) ⟨fl a, fl b, fl c⟩) v
  | 33, ⟨[.agg ⟨[.float .f64 m1, .float .f64 m2, .float .f64 m3, .float .f64 m4, .float .f64 m5, .float .f64 m6, .float .f64 m7, .float .f64 m8, .float .f64 m9]⟩, .agg ⟨[.float .f64 a, .float .f64 b, .float .f64 c]⟩]⟩, v => IsV (app ⟨⟨fl m1, fl m2, fl m3⟩, ⟨fl m4, fl m5, fl m6⟩, ⟨fl m7, fl m8, fl m9⟩⟩ ⟨fl a, fl b, fl c⟩) v
  | 34, ⟨[.agg ⟨[.float .f64 m1, .float .f64 m2, .float .f64 m3, .float .f64 m4, .float .f64 m5, .float .f64 m6, .float .f64 m7, .float .f64 m8, .float .f64 m9]⟩, .agg ⟨[.float .f64 a, .float .f64 b, .float .f64 c]⟩]⟩, v => IsV (app ⟨⟨fl m1, fl m2, fl m3⟩, ⟨fl m4, fl m5, fl m6⟩, ⟨fl m7, fl m8, fl m9⟩⟩ ⟨fl a, fl b, fl c⟩) v
  | _, _, _ => False

set_option maxRecDepth 100000 in
set_option maxHeartbeats 16000000 in
theorem spinTurns_walk (a1 a2 a3 : Nat) (half : Int) (qa qb qc qd v1 v2 v3 : Nat) (w : World) : Calls Try.prog 6 #[.agg #[.float .f64 a1, .float .f64 a2, .float .f64 a3], .int .i64 half, .agg #[.float .f64 qa, .float .f64 qb, .float .f64 qc, .float .f64 qd], .agg #[.float .f64 v1, .float .f64 v2, .float .f64 v3]] w (Post (fun v => v = .bool true) w) := by
  cases hX : (abt ⟨fl a1, fl a2, fl a3⟩ half).2
  all_goals
    have HX := Lib.hid hX
    clear hX
    have s0 := trivial
    go_enter Try.func6, Try.ntmps6
    go_wp2_with (first
      | (clear s0
         go_at_call 12
         refine Grow.seal_calls ?_
         intro W hW
         have HG : Hid (Below w.heap.size w W) := Lib.hid (by rw [hW.out]; (repeat (with_reducible first | exact Grow.grow_refl _ | refine Grow.grow_setCell ?_ ?_ _ | refine Grow.grow_alloc ?_ _ | refine Grow.grow_drewN ?_ _ | refine Grow.grow_over ?_ _ | refine Grow.grow_via (by assumption) ?_)) <;> omega)
         have HZ : w.heap.size ≤ W.heap.size := Below.size HG.out
         apply Grow.have_known (W := W)
         · rw [hW.out]; exact ((Known.new _ _ _).alloc _).alloc _
         intro q4
         (try simp only [World.size_alloc] at q4)
         apply Grow.have_known (W := W)
         · rw [hW.out]; exact (Known.new _ _ _).alloc _
         intro q6
         (try simp only [World.size_alloc] at q6)
         apply Grow.have_known (W := W)
         · rw [hW.out]; exact Known.new _ _ _
         intro q7
         (try simp only [World.size_alloc] at q7)
         clear hW
         refine (turns_walk _).mono ?_
         rintro e w1 hp
         obtain ⟨v, rfl, hp, hB⟩ := hp
         subst hp
         skip
         replace q4 := q4.below hB
         replace q6 := q6.below hB
         replace q7 := q7.below hB
         replace HG : Hid (Below w.heap.size w w1) := Lib.hid (Grow.grow_trans HG.out hB)
         replace HZ : w.heap.size ≤ w1.heap.size := Below.size HG.out
         clear hB
         have c4 := q4.cell; have f4 := q4.frozen; have l4 := q4.lt
         have c6 := q6.cell; have f6 := q6.frozen; have l6 := q6.lt
         have c7 := q7.cell; have f7 := q7.frozen; have l7 := q7.lt
         have s1 := trivial)
      | (clear s1
         go_at_call 28
         refine Grow.seal_calls ?_
         intro W hW
         have HG2 : Hid (Below w.heap.size w W) := Lib.hid (by rw [hW.out]; (repeat (with_reducible first | exact Grow.grow_refl _ | refine Grow.grow_setCell ?_ ?_ _ | refine Grow.grow_alloc ?_ _ | refine Grow.grow_drewN ?_ _ | refine Grow.grow_over ?_ _ | refine Grow.grow_via (by assumption) ?_)) <;> omega)
         clear HG
         have HG := HG2
         clear HG2
         clear c4 f4 c6 f6 c7 f7
         apply Grow.have_known (W := W)
         · rw [hW.out]; apply Known.at q4; (repeat (with_reducible first | exact q4 | apply Known.same | apply Known.other | apply Known.alloc | apply Known.drewN)) <;> omega
         clear q4
         intro q4
         (try simp only [List.setIfInBounds_toArray, List.set_cons_zero, List.set_cons_succ] at q4)
         apply Grow.have_known (W := W)
         · rw [hW.out]; apply Known.at q6; (repeat (with_reducible first | exact q6 | apply Known.same | apply Known.other | apply Known.alloc | apply Known.drewN)) <;> omega
         clear q6
         intro q6
         (try simp only [List.setIfInBounds_toArray, List.set_cons_zero, List.set_cons_succ] at q6)
         apply Grow.have_known (W := W)
         · rw [hW.out]; apply Known.at q7; (repeat (with_reducible first | exact q7 | apply Known.same | apply Known.other | apply Known.alloc | apply Known.drewN)) <;> omega
         clear q7
         intro q7
         (try simp only [List.setIfInBounds_toArray, List.set_cons_zero, List.set_cons_succ] at q7)
         replace HZ : w.heap.size ≤ W.heap.size := Below.size HG.out
         clear hW
         refine (about_walk _ _ _ _ _).mono ?_
         rintro e w1 hp
         obtain ⟨v, rfl, hp, hB⟩ := hp
         obtain ⟨q, ⟨b1, b2, b3, b4, rfl, g1, g2, g3, g4⟩, hv⟩ := hp
         rw [HX.out] at hv; subst hv; have G1 := Lib.hid g1; have G2 := Lib.hid g2; have G3 := Lib.hid g3; have G4 := Lib.hid g4; clear g1 g2 g3 g4
         replace q4 := q4.below hB
         replace q6 := q6.below hB
         replace q7 := q7.below hB
         replace HG : Hid (Below w.heap.size w w1) := Lib.hid (Grow.grow_trans HG.out hB)
         replace HZ : w.heap.size ≤ w1.heap.size := Below.size HG.out
         clear hB
         have c4 := q4.cell; have f4 := q4.frozen; have l4 := q4.lt
         have c6 := q6.cell; have f6 := q6.frozen; have l6 := q6.lt
         have c7 := q7.cell; have f7 := q7.frozen; have l7 := q7.lt
         have s2 := trivial)
      | (clear s2
         go_at_call 29
         refine Grow.seal_calls ?_
         intro W hW
         have HG2 : Hid (Below w.heap.size w W) := Lib.hid (by rw [hW.out]; (repeat (with_reducible first | exact Grow.grow_refl _ | refine Grow.grow_setCell ?_ ?_ _ | refine Grow.grow_alloc ?_ _ | refine Grow.grow_drewN ?_ _ | refine Grow.grow_over ?_ _ | refine Grow.grow_via (by assumption) ?_)) <;> omega)
         clear HG
         have HG := HG2
         clear HG2
         clear c4 f4 c6 f6 c7 f7
         apply Grow.have_known (W := W)
         · rw [hW.out]; apply Known.at q4; (repeat (with_reducible first | exact q4 | apply Known.same | apply Known.other | apply Known.alloc | apply Known.drewN)) <;> omega
         clear q4
         intro q4
         (try simp only [List.setIfInBounds_toArray, List.set_cons_zero, List.set_cons_succ] at q4)
         apply Grow.have_known (W := W)
         · rw [hW.out]; apply Known.at q6; (repeat (with_reducible first | exact q6 | apply Known.same | apply Known.other | apply Known.alloc | apply Known.drewN)) <;> omega
         clear q6
         intro q6
         (try simp only [List.setIfInBounds_toArray, List.set_cons_zero, List.set_cons_succ] at q6)
         apply Grow.have_known (W := W)
         · rw [hW.out]; apply Known.at q7; (repeat (with_reducible first | exact q7 | apply Known.same | apply Known.other | apply Known.alloc | apply Known.drewN)) <;> omega
         clear q7
         intro q7
         (try simp only [List.setIfInBounds_toArray, List.set_cons_zero, List.set_cons_succ] at q7)
         apply Grow.have_known (W := W) (b := w1.heap.size)
         · rw [hW.out]; (repeat (with_reducible first | exact Known.new _ _ _ | apply Known.same | apply Known.other | apply Known.alloc | apply Known.drewN)) <;> omega
         intro q10
         (try simp only [World.size_alloc, World.size_setCell, World.heap_drewN] at q10)
         (try simp only [List.setIfInBounds_toArray, List.set_cons_zero, List.set_cons_succ] at q10)
         have m10 := q10.ge (n := w.heap.size) (by omega)
         replace HZ : w.heap.size ≤ W.heap.size := Below.size HG.out
         clear hW
         refine (aboutOf_walk _ _ _ _ _).mono ?_
         rintro e w1 hp
         obtain ⟨v, rfl, hp, hB⟩ := hp
         obtain ⟨q, ⟨c1, c2, c3, c4, rfl, k1, k2, k3, k4⟩, hv⟩ := hp
         rw [HX.out] at hv; subst hv; have K1 := Lib.hid k1; have K2 := Lib.hid k2; have K3 := Lib.hid k3; have K4 := Lib.hid k4; clear k1 k2 k3 k4
         replace q4 := q4.below hB
         replace q6 := q6.below hB
         replace q7 := q7.below hB
         replace q10 := q10.below hB
         replace HG : Hid (Below w.heap.size w w1) := Lib.hid (Grow.grow_trans HG.out hB)
         replace HZ : w.heap.size ≤ w1.heap.size := Below.size HG.out
         clear hB
         have c4 := q4.cell; have f4 := q4.frozen; have l4 := q4.lt
         have c6 := q6.cell; have f6 := q6.frozen; have l6 := q6.lt
         have c7 := q7.cell; have f7 := q7.frozen; have l7 := q7.lt
         have c10 := q10.cell; have f10 := q10.frozen; have l10 := q10.lt
         have s3 := trivial)
      | (clear s3
         go_at_call 13
         refine Grow.seal_calls ?_
         intro W hW
         have HG2 : Hid (Below w.heap.size w W) := Lib.hid (by rw [hW.out]; (repeat (with_reducible first | exact Grow.grow_refl _ | refine Grow.grow_setCell ?_ ?_ _ | refine Grow.grow_alloc ?_ _ | refine Grow.grow_drewN ?_ _ | refine Grow.grow_over ?_ _ | refine Grow.grow_via (by assumption) ?_)) <;> omega)
         clear HG
         have HG := HG2
         clear HG2
         clear c4 f4 c6 f6 c7 f7 c10 f10
         apply Grow.have_known (W := W)
         · rw [hW.out]; apply Known.at q4; (repeat (with_reducible first | exact q4 | apply Known.same | apply Known.other | apply Known.alloc | apply Known.drewN)) <;> omega
         clear q4
         intro q4
         (try simp only [List.setIfInBounds_toArray, List.set_cons_zero, List.set_cons_succ] at q4)
         apply Grow.have_known (W := W)
         · rw [hW.out]; apply Known.at q6; (repeat (with_reducible first | exact q6 | apply Known.same | apply Known.other | apply Known.alloc | apply Known.drewN)) <;> omega
         clear q6
         intro q6
         (try simp only [List.setIfInBounds_toArray, List.set_cons_zero, List.set_cons_succ] at q6)
         apply Grow.have_known (W := W)
         · rw [hW.out]; apply Known.at q7; (repeat (with_reducible first | exact q7 | apply Known.same | apply Known.other | apply Known.alloc | apply Known.drewN)) <;> omega
         clear q7
         intro q7
         (try simp only [List.setIfInBounds_toArray, List.set_cons_zero, List.set_cons_succ] at q7)
         apply Grow.have_known (W := W)
         · rw [hW.out]; apply Known.at q10; (repeat (with_reducible first | exact q10 | apply Known.same | apply Known.other | apply Known.alloc | apply Known.drewN)) <;> omega
         clear q10
         intro q10
         (try simp only [List.setIfInBounds_toArray, List.set_cons_zero, List.set_cons_succ] at q10)
         apply Grow.have_known (W := W) (b := w1.heap.size)
         · rw [hW.out]; (repeat (with_reducible first | exact Known.new _ _ _ | apply Known.same | apply Known.other | apply Known.alloc | apply Known.drewN)) <;> omega
         intro q12
         (try simp only [World.size_alloc, World.size_setCell, World.heap_drewN] at q12)
         (try simp only [List.setIfInBounds_toArray, List.set_cons_zero, List.set_cons_succ] at q12)
         have m12 := q12.ge (n := w.heap.size) (by omega)
         replace HZ : w.heap.size ≤ W.heap.size := Below.size HG.out
         clear hW
         refine (sameQ_walk _ _ _ _ _ _ _ _ (G1.out.trans K1.out.symm) (G2.out.trans K2.out.symm) (G3.out.trans K3.out.symm) (G4.out.trans K4.out.symm) _).mono ?_
         rintro e w1 hp
         obtain ⟨v, rfl, hp, hB⟩ := hp
         subst hp
         skip
         replace q4 := q4.below hB
         replace q6 := q6.below hB
         replace q7 := q7.below hB
         replace q10 := q10.below hB
         replace q12 := q12.below hB
         replace HG : Hid (Below w.heap.size w w1) := Lib.hid (Grow.grow_trans HG.out hB)
         replace HZ : w.heap.size ≤ w1.heap.size := Below.size HG.out
         clear hB
         have c4 := q4.cell; have f4 := q4.frozen; have l4 := q4.lt
         have c6 := q6.cell; have f6 := q6.frozen; have l6 := q6.lt
         have c7 := q7.cell; have f7 := q7.frozen; have l7 := q7.lt
         have c10 := q10.cell; have f10 := q10.frozen; have l10 := q10.lt
         have c12 := q12.cell; have f12 := q12.frozen; have l12 := q12.lt
         have s4 := trivial
         clear q10 c10 f10 l10 q12 c12 f12 l12 G1 G2 G3 G4 K1 K2 K3 K4)
      | (clear s4
         go_at_call 14
         refine Grow.seal_calls ?_
         intro W hW
         have HG2 : Hid (Below w.heap.size w W) := Lib.hid (by rw [hW.out]; (repeat (with_reducible first | exact Grow.grow_refl _ | refine Grow.grow_setCell ?_ ?_ _ | refine Grow.grow_alloc ?_ _ | refine Grow.grow_drewN ?_ _ | refine Grow.grow_over ?_ _ | refine Grow.grow_via (by assumption) ?_)) <;> omega)
         clear HG
         have HG := HG2
         clear HG2
         clear c4 f4 c6 f6 c7 f7
         apply Grow.have_known (W := W)
         · rw [hW.out]; apply Known.at q4; (repeat (with_reducible first | exact q4 | apply Known.same | apply Known.other | apply Known.alloc | apply Known.drewN)) <;> omega
         clear q4
         intro q4
         (try simp only [List.setIfInBounds_toArray, List.set_cons_zero, List.set_cons_succ] at q4)
         apply Grow.have_known (W := W)
         · rw [hW.out]; apply Known.at q6; (repeat (with_reducible first | exact q6 | apply Known.same | apply Known.other | apply Known.alloc | apply Known.drewN)) <;> omega
         clear q6
         intro q6
         (try simp only [List.setIfInBounds_toArray, List.set_cons_zero, List.set_cons_succ] at q6)
         apply Grow.have_known (W := W)
         · rw [hW.out]; apply Known.at q7; (repeat (with_reducible first | exact q7 | apply Known.same | apply Known.other | apply Known.alloc | apply Known.drewN)) <;> omega
         clear q7
         intro q7
         (try simp only [List.setIfInBounds_toArray, List.set_cons_zero, List.set_cons_succ] at q7)
         replace HZ : w.heap.size ≤ W.heap.size := Below.size HG.out
         clear hW
         refine (q_walk _ _ _ _ _).mono ?_
         rintro e w1 hp
         obtain ⟨v, rfl, hp, hB⟩ := hp
         subst hp
         skip
         replace q4 := q4.below hB
         replace q6 := q6.below hB
         replace q7 := q7.below hB
         replace HG : Hid (Below w.heap.size w w1) := Lib.hid (Grow.grow_trans HG.out hB)
         replace HZ : w.heap.size ≤ w1.heap.size := Below.size HG.out
         clear hB
         have c4 := q4.cell; have f4 := q4.frozen; have l4 := q4.lt
         have c6 := q6.cell; have f6 := q6.frozen; have l6 := q6.lt
         have c7 := q7.cell; have f7 := q7.frozen; have l7 := q7.lt
         have s5 := trivial)
      | (clear s5
         go_at_call 30
         refine Grow.seal_calls ?_
         intro W hW
         have HG2 : Hid (Below w.heap.size w W) := Lib.hid (by rw [hW.out]; (repeat (with_reducible first | exact Grow.grow_refl _ | refine Grow.grow_setCell ?_ ?_ _ | refine Grow.grow_alloc ?_ _ | refine Grow.grow_drewN ?_ _ | refine Grow.grow_over ?_ _ | refine Grow.grow_via (by assumption) ?_)) <;> omega)
         clear HG
         have HG := HG2
         clear HG2
         clear c4 f4 c6 f6 c7 f7
         apply Grow.have_known (W := W)
         · rw [hW.out]; apply Known.at q4; (repeat (with_reducible first | exact q4 | apply Known.same | apply Known.other | apply Known.alloc | apply Known.drewN)) <;> omega
         clear q4
         intro q4
         (try simp only [List.setIfInBounds_toArray, List.set_cons_zero, List.set_cons_succ] at q4)
         apply Grow.have_known (W := W)
         · rw [hW.out]; apply Known.at q6; (repeat (with_reducible first | exact q6 | apply Known.same | apply Known.other | apply Known.alloc | apply Known.drewN)) <;> omega
         clear q6
         intro q6
         (try simp only [List.setIfInBounds_toArray, List.set_cons_zero, List.set_cons_succ] at q6)
         apply Grow.have_known (W := W)
         · rw [hW.out]; apply Known.at q7; (repeat (with_reducible first | exact q7 | apply Known.same | apply Known.other | apply Known.alloc | apply Known.drewN)) <;> omega
         clear q7
         intro q7
         (try simp only [List.setIfInBounds_toArray, List.set_cons_zero, List.set_cons_succ] at q7)
         replace HZ : w.heap.size ≤ W.heap.size := Below.size HG.out
         clear hW
         refine (matrix_walk _ _ _ _ _).mono ?_
         rintro e w1 hp
         obtain ⟨v, rfl, hp, hB⟩ := hp
         obtain ⟨p1, p2, p3, p4, p5, p6, p7, p8, p9, rfl, g1, g2, g3, g4, g5, g6, g7, g8, g9⟩ := hp
         have GP := Lib.hid (m3_eq g1 g2 g3 g4 g5 g6 g7 g8 g9); clear g1 g2 g3 g4 g5 g6 g7 g8 g9
         replace q4 := q4.below hB
         replace q6 := q6.below hB
         replace q7 := q7.below hB
         replace HG : Hid (Below w.heap.size w w1) := Lib.hid (Grow.grow_trans HG.out hB)
         replace HZ : w.heap.size ≤ w1.heap.size := Below.size HG.out
         clear hB
         have c4 := q4.cell; have f4 := q4.frozen; have l4 := q4.lt
         have c6 := q6.cell; have f6 := q6.frozen; have l6 := q6.lt
         have c7 := q7.cell; have f7 := q7.frozen; have l7 := q7.lt
         have s6 := trivial)
      | (clear s6
         go_at_call 31
         refine Grow.seal_calls ?_
         intro W hW
         have HG2 : Hid (Below w.heap.size w W) := Lib.hid (by rw [hW.out]; (repeat (with_reducible first | exact Grow.grow_refl _ | refine Grow.grow_setCell ?_ ?_ _ | refine Grow.grow_alloc ?_ _ | refine Grow.grow_drewN ?_ _ | refine Grow.grow_over ?_ _ | refine Grow.grow_via (by assumption) ?_)) <;> omega)
         clear HG
         have HG := HG2
         clear HG2
         clear c4 f4 c6 f6 c7 f7
         apply Grow.have_known (W := W)
         · rw [hW.out]; apply Known.at q4; (repeat (with_reducible first | exact q4 | apply Known.same | apply Known.other | apply Known.alloc | apply Known.drewN)) <;> omega
         clear q4
         intro q4
         (try simp only [List.setIfInBounds_toArray, List.set_cons_zero, List.set_cons_succ] at q4)
         apply Grow.have_known (W := W)
         · rw [hW.out]; apply Known.at q6; (repeat (with_reducible first | exact q6 | apply Known.same | apply Known.other | apply Known.alloc | apply Known.drewN)) <;> omega
         clear q6
         intro q6
         (try simp only [List.setIfInBounds_toArray, List.set_cons_zero, List.set_cons_succ] at q6)
         apply Grow.have_known (W := W)
         · rw [hW.out]; apply Known.at q7; (repeat (with_reducible first | exact q7 | apply Known.same | apply Known.other | apply Known.alloc | apply Known.drewN)) <;> omega
         clear q7
         intro q7
         (try simp only [List.setIfInBounds_toArray, List.set_cons_zero, List.set_cons_succ] at q7)
         apply Grow.have_known (W := W) (b := w1.heap.size)
         · rw [hW.out]; (repeat (with_reducible first | exact Known.new _ _ _ | apply Known.same | apply Known.other | apply Known.alloc | apply Known.drewN)) <;> omega
         intro q14
         (try simp only [World.size_alloc, World.size_setCell, World.heap_drewN] at q14)
         (try simp only [List.setIfInBounds_toArray, List.set_cons_zero, List.set_cons_succ] at q14)
         have m14 := q14.ge (n := w.heap.size) (by omega)
         replace HZ : w.heap.size ≤ W.heap.size := Below.size HG.out
         clear hW
         refine (matrixOf_walk _ _ _ _ _).mono ?_
         rintro e w1 hp
         obtain ⟨v, rfl, hp, hB⟩ := hp
         obtain ⟨r1, r2, r3, r4, r5, r6, r7, r8, r9, rfl, g1, g2, g3, g4, g5, g6, g7, g8, g9⟩ := hp
         have GR := Lib.hid (m3_eq g1 g2 g3 g4 g5 g6 g7 g8 g9); clear g1 g2 g3 g4 g5 g6 g7 g8 g9
         replace q4 := q4.below hB
         replace q6 := q6.below hB
         replace q7 := q7.below hB
         replace q14 := q14.below hB
         replace HG : Hid (Below w.heap.size w w1) := Lib.hid (Grow.grow_trans HG.out hB)
         replace HZ : w.heap.size ≤ w1.heap.size := Below.size HG.out
         clear hB
         have c4 := q4.cell; have f4 := q4.frozen; have l4 := q4.lt
         have c6 := q6.cell; have f6 := q6.frozen; have l6 := q6.lt
         have c7 := q7.cell; have f7 := q7.frozen; have l7 := q7.lt
         have c14 := q14.cell; have f14 := q14.frozen; have l14 := q14.lt
         have s7 := trivial)
      | (clear s7
         go_at_call 25
         refine Grow.seal_calls ?_
         intro W hW
         have HG2 : Hid (Below w.heap.size w W) := Lib.hid (by rw [hW.out]; (repeat (with_reducible first | exact Grow.grow_refl _ | refine Grow.grow_setCell ?_ ?_ _ | refine Grow.grow_alloc ?_ _ | refine Grow.grow_drewN ?_ _ | refine Grow.grow_over ?_ _ | refine Grow.grow_via (by assumption) ?_)) <;> omega)
         clear HG
         have HG := HG2
         clear HG2
         clear c4 f4 c6 f6 c7 f7 c14 f14
         apply Grow.have_known (W := W)
         · rw [hW.out]; apply Known.at q4; (repeat (with_reducible first | exact q4 | apply Known.same | apply Known.other | apply Known.alloc | apply Known.drewN)) <;> omega
         clear q4
         intro q4
         (try simp only [List.setIfInBounds_toArray, List.set_cons_zero, List.set_cons_succ] at q4)
         apply Grow.have_known (W := W)
         · rw [hW.out]; apply Known.at q6; (repeat (with_reducible first | exact q6 | apply Known.same | apply Known.other | apply Known.alloc | apply Known.drewN)) <;> omega
         clear q6
         intro q6
         (try simp only [List.setIfInBounds_toArray, List.set_cons_zero, List.set_cons_succ] at q6)
         apply Grow.have_known (W := W)
         · rw [hW.out]; apply Known.at q7; (repeat (with_reducible first | exact q7 | apply Known.same | apply Known.other | apply Known.alloc | apply Known.drewN)) <;> omega
         clear q7
         intro q7
         (try simp only [List.setIfInBounds_toArray, List.set_cons_zero, List.set_cons_succ] at q7)
         apply Grow.have_known (W := W)
         · rw [hW.out]; apply Known.at q14; (repeat (with_reducible first | exact q14 | apply Known.same | apply Known.other | apply Known.alloc | apply Known.drewN)) <;> omega
         clear q14
         intro q14
         (try simp only [List.setIfInBounds_toArray, List.set_cons_zero, List.set_cons_succ] at q14)
         apply Grow.have_known (W := W) (b := w1.heap.size)
         · rw [hW.out]; (repeat (with_reducible first | exact Known.new _ _ _ | apply Known.same | apply Known.other | apply Known.alloc | apply Known.drewN)) <;> omega
         intro q15
         (try simp only [World.size_alloc, World.size_setCell, World.heap_drewN] at q15)
         (try simp only [List.setIfInBounds_toArray, List.set_cons_zero, List.set_cons_succ] at q15)
         have m15 := q15.ge (n := w.heap.size) (by omega)
         replace HZ : w.heap.size ≤ W.heap.size := Below.size HG.out
         clear hW
         refine (sameVec_walk _ _ _ _ _ _ (congrArg (fun m => m.a.x) (GP.out.trans GR.out.symm)) (congrArg (fun m => m.a.y) (GP.out.trans GR.out.symm)) (congrArg (fun m => m.a.z) (GP.out.trans GR.out.symm)) _).mono ?_
         rintro e w1 hp
         obtain ⟨v, rfl, hp, hB⟩ := hp
         subst hp
         skip
         replace q4 := q4.below hB
         replace q6 := q6.below hB
         replace q7 := q7.below hB
         replace q14 := q14.below hB
         replace q15 := q15.below hB
         replace HG : Hid (Below w.heap.size w w1) := Lib.hid (Grow.grow_trans HG.out hB)
         replace HZ : w.heap.size ≤ w1.heap.size := Below.size HG.out
         clear hB
         have c4 := q4.cell; have f4 := q4.frozen; have l4 := q4.lt
         have c6 := q6.cell; have f6 := q6.frozen; have l6 := q6.lt
         have c7 := q7.cell; have f7 := q7.frozen; have l7 := q7.lt
         have c14 := q14.cell; have f14 := q14.frozen; have l14 := q14.lt
         have c15 := q15.cell; have f15 := q15.frozen; have l15 := q15.lt
         have s8 := trivial)
      | (clear s8
         go_at_call 25
         refine Grow.seal_calls ?_
         intro W hW
         have HG2 : Hid (Below w.heap.size w W) := Lib.hid (by rw [hW.out]; (repeat (with_reducible first | exact Grow.grow_refl _ | refine Grow.grow_setCell ?_ ?_ _ | refine Grow.grow_alloc ?_ _ | refine Grow.grow_drewN ?_ _ | refine Grow.grow_over ?_ _ | refine Grow.grow_via (by assumption) ?_)) <;> omega)
         clear HG
         have HG := HG2
         clear HG2
         clear c4 f4 c6 f6 c7 f7 c14 f14 c15 f15
         apply Grow.have_known (W := W)
         · rw [hW.out]; apply Known.at q4; (repeat (with_reducible first | exact q4 | apply Known.same | apply Known.other | apply Known.alloc | apply Known.drewN)) <;> omega
         clear q4
         intro q4
         (try simp only [List.setIfInBounds_toArray, List.set_cons_zero, List.set_cons_succ] at q4)
         apply Grow.have_known (W := W)
         · rw [hW.out]; apply Known.at q6; (repeat (with_reducible first | exact q6 | apply Known.same | apply Known.other | apply Known.alloc | apply Known.drewN)) <;> omega
         clear q6
         intro q6
         (try simp only [List.setIfInBounds_toArray, List.set_cons_zero, List.set_cons_succ] at q6)
         apply Grow.have_known (W := W)
         · rw [hW.out]; apply Known.at q7; (repeat (with_reducible first | exact q7 | apply Known.same | apply Known.other | apply Known.alloc | apply Known.drewN)) <;> omega
         clear q7
         intro q7
         (try simp only [List.setIfInBounds_toArray, List.set_cons_zero, List.set_cons_succ] at q7)
         apply Grow.have_known (W := W)
         · rw [hW.out]; apply Known.at q14; (repeat (with_reducible first | exact q14 | apply Known.same | apply Known.other | apply Known.alloc | apply Known.drewN)) <;> omega
         clear q14
         intro q14
         (try simp only [List.setIfInBounds_toArray, List.set_cons_zero, List.set_cons_succ] at q14)
         apply Grow.have_known (W := W)
         · rw [hW.out]; apply Known.at q15; (repeat (with_reducible first | exact q15 | apply Known.same | apply Known.other | apply Known.alloc | apply Known.drewN)) <;> omega
         clear q15
         intro q15
         (try simp only [List.setIfInBounds_toArray, List.set_cons_zero, List.set_cons_succ] at q15)
         replace HZ : w.heap.size ≤ W.heap.size := Below.size HG.out
         clear hW
         refine (sameVec_walk _ _ _ _ _ _ (congrArg (fun m => m.b.x) (GP.out.trans GR.out.symm)) (congrArg (fun m => m.b.y) (GP.out.trans GR.out.symm)) (congrArg (fun m => m.b.z) (GP.out.trans GR.out.symm)) _).mono ?_
         rintro e w1 hp
         obtain ⟨v, rfl, hp, hB⟩ := hp
         subst hp
         skip
         replace q4 := q4.below hB
         replace q6 := q6.below hB
         replace q7 := q7.below hB
         replace q14 := q14.below hB
         replace q15 := q15.below hB
         replace HG : Hid (Below w.heap.size w w1) := Lib.hid (Grow.grow_trans HG.out hB)
         replace HZ : w.heap.size ≤ w1.heap.size := Below.size HG.out
         clear hB
         have c4 := q4.cell; have f4 := q4.frozen; have l4 := q4.lt
         have c6 := q6.cell; have f6 := q6.frozen; have l6 := q6.lt
         have c7 := q7.cell; have f7 := q7.frozen; have l7 := q7.lt
         have c14 := q14.cell; have f14 := q14.frozen; have l14 := q14.lt
         have c15 := q15.cell; have f15 := q15.frozen; have l15 := q15.lt
         have s9 := trivial)
      | (clear s9
         go_at_call 25
         refine Grow.seal_calls ?_
         intro W hW
         have HG2 : Hid (Below w.heap.size w W) := Lib.hid (by rw [hW.out]; (repeat (with_reducible first | exact Grow.grow_refl _ | refine Grow.grow_setCell ?_ ?_ _ | refine Grow.grow_alloc ?_ _ | refine Grow.grow_drewN ?_ _ | refine Grow.grow_over ?_ _ | refine Grow.grow_via (by assumption) ?_)) <;> omega)
         clear HG
         have HG := HG2
         clear HG2
         clear c4 f4 c6 f6 c7 f7 c14 f14 c15 f15
         apply Grow.have_known (W := W)
         · rw [hW.out]; apply Known.at q4; (repeat (with_reducible first | exact q4 | apply Known.same | apply Known.other | apply Known.alloc | apply Known.drewN)) <;> omega
         clear q4
         intro q4
         (try simp only [List.setIfInBounds_toArray, List.set_cons_zero, List.set_cons_succ] at q4)
         apply Grow.have_known (W := W)
         · rw [hW.out]; apply Known.at q6; (repeat (with_reducible first | exact q6 | apply Known.same | apply Known.other | apply Known.alloc | apply Known.drewN)) <;> omega
         clear q6
         intro q6
         (try simp only [List.setIfInBounds_toArray, List.set_cons_zero, List.set_cons_succ] at q6)
         apply Grow.have_known (W := W)
         · rw [hW.out]; apply Known.at q7; (repeat (with_reducible first | exact q7 | apply Known.same | apply Known.other | apply Known.alloc | apply Known.drewN)) <;> omega
         clear q7
         intro q7
         (try simp only [List.setIfInBounds_toArray, List.set_cons_zero, List.set_cons_succ] at q7)
         apply Grow.have_known (W := W)
         · rw [hW.out]; apply Known.at q14; (repeat (with_reducible first | exact q14 | apply Known.same | apply Known.other | apply Known.alloc | apply Known.drewN)) <;> omega
         clear q14
         intro q14
         (try simp only [List.setIfInBounds_toArray, List.set_cons_zero, List.set_cons_succ] at q14)
         apply Grow.have_known (W := W)
         · rw [hW.out]; apply Known.at q15; (repeat (with_reducible first | exact q15 | apply Known.same | apply Known.other | apply Known.alloc | apply Known.drewN)) <;> omega
         clear q15
         intro q15
         (try simp only [List.setIfInBounds_toArray, List.set_cons_zero, List.set_cons_succ] at q15)
         replace HZ : w.heap.size ≤ W.heap.size := Below.size HG.out
         clear hW
         refine (sameVec_walk _ _ _ _ _ _ (congrArg (fun m => m.c.x) (GP.out.trans GR.out.symm)) (congrArg (fun m => m.c.y) (GP.out.trans GR.out.symm)) (congrArg (fun m => m.c.z) (GP.out.trans GR.out.symm)) _).mono ?_
         rintro e w1 hp
         obtain ⟨v, rfl, hp, hB⟩ := hp
         subst hp
         skip
         replace q4 := q4.below hB
         replace q6 := q6.below hB
         replace q7 := q7.below hB
         replace q14 := q14.below hB
         replace q15 := q15.below hB
         replace HG : Hid (Below w.heap.size w w1) := Lib.hid (Grow.grow_trans HG.out hB)
         replace HZ : w.heap.size ≤ w1.heap.size := Below.size HG.out
         clear hB
         have c4 := q4.cell; have f4 := q4.frozen; have l4 := q4.lt
         have c6 := q6.cell; have f6 := q6.frozen; have l6 := q6.lt
         have c7 := q7.cell; have f7 := q7.frozen; have l7 := q7.lt
         have c14 := q14.cell; have f14 := q14.frozen; have l14 := q14.lt
         have c15 := q15.cell; have f15 := q15.frozen; have l15 := q15.lt
         have s10 := trivial))
    refine Rel.wp_region_rel SpecTurns (by kernel_rfl) (lexB_of_fast (by kernel_rfl) (by kernel_rfl)) ?_
    repeat (first
      | (refine rel_arith (by rfl) rfl (by rfl) rfl rfl ?_; intro b1 H1; simp only [Act.put, List.setIfInBounds_toArray, List.set_cons_zero, List.set_cons_succ])
      | (refine rel_call (f := 14) (args := #[.agg #[.float .f64 _, .float .f64 _, .float .f64 _, .float .f64 _]]) (by rfl) rfl (callAt_func rfl Try.func14 (by kernel_rfl) (by kernel_rfl) rfl) (keeps_over (fun v h => h) fun x => q_walk _ _ _ _ _) ?_; rintro _ rfl; skip; simp only [Act.put, List.setIfInBounds_toArray, List.set_cons_zero, List.set_cons_succ])
      | (refine rel_call (f := 32) (args := #[.agg #[.float .f64 _, .float .f64 _, .float .f64 _, .float .f64 _], .agg #[.float .f64 _, .float .f64 _, .float .f64 _]]) (by rfl) rfl (callAt_func rfl Try.func32 (by kernel_rfl) (by kernel_rfl) rfl) (keeps_over (fun v h => h) fun x => turn_walk _ _ _ _ _ _ _ _) ?_; rintro _ ⟨b1, b2, b3, rfl, g1, g2, g3⟩; have G1 := Lib.hid g1; have G2 := Lib.hid g2; have G3 := Lib.hid g3; clear g1 g2 g3; simp only [Act.put, List.setIfInBounds_toArray, List.set_cons_zero, List.set_cons_succ])
      | (refine rel_call (f := 33) (args := #[.agg #[.float .f64 _, .float .f64 _, .float .f64 _, .float .f64 _, .float .f64 _, .float .f64 _, .float .f64 _, .float .f64 _, .float .f64 _], .agg #[.float .f64 _, .float .f64 _, .float .f64 _]]) (by rfl) rfl (callAt_func rfl Try.func33 (by kernel_rfl) (by kernel_rfl) rfl) (keeps_over (fun v h => h) fun x => applyTo_walk _ _ _ _ _ _ _ _ _ _ _ _ _) ?_; rintro _ ⟨c1, c2, c3, rfl, k1, k2, k3⟩; have K1 := Lib.hid (k1.trans (congrArg (fun m => (app m _).x) GR.out)); have K2 := Lib.hid (k2.trans (congrArg (fun m => (app m _).y) GR.out)); have K3 := Lib.hid (k3.trans (congrArg (fun m => (app m _).z) GR.out)); clear k1 k2 k3; simp only [Act.put, List.setIfInBounds_toArray, List.set_cons_zero, List.set_cons_succ])
      | (refine rel_call (f := 25) (args := #[.agg #[.float .f64 _, .float .f64 _, .float .f64 _], .agg #[.float .f64 _, .float .f64 _, .float .f64 _]]) (by rfl) rfl (callAt_func rfl Try.func25 (by kernel_rfl) (by kernel_rfl) rfl) (keeps_over (fun v h => h) fun x => sameVec_walk _ _ _ _ _ _ (G1.out.trans K1.out.symm) (G2.out.trans K2.out.symm) (G3.out.trans K3.out.symm) _) ?_; rintro _ rfl; simp only [Act.put, List.setIfInBounds_toArray, List.set_cons_zero, List.set_cons_succ])
      | (refine rel_plain (by rfl) rfl ?_; intro K hK; go_big_quiet_op; go_big_quiet_on)
      | (refine rel_skip (by rfl) ?_; simp only [Act.put, List.setIfInBounds_toArray, List.set_cons_zero, List.set_cons_succ]))
    refine Rel.wpRel_nil ?_
    intro w9 hB9 hG9
    clear c4 f4 c6 f6 c7 f7 c14 f14 c15 f15
    replace q4 := q4.below hB9
    replace q6 := q6.below hB9
    replace q7 := q7.below hB9
    replace q14 := q14.below hB9
    replace q15 := q15.below hB9
    clear hG9
    replace HG : Hid (Below w.heap.size w w9) := Lib.hid (Grow.grow_trans HG.out hB9)
    replace HZ : w.heap.size ≤ w9.heap.size := Below.size HG.out
    clear hB9
    have c4 := q4.cell
    have f4 := q4.frozen
    have l4 := q4.lt
    have c6 := q6.cell
    have f6 := q6.frozen
    have l6 := q6.lt
    have c7 := q7.cell
    have f7 := q7.frozen
    have l7 := q7.lt
    have c14 := q14.cell
    have f14 := q14.frozen
    have l14 := q14.lt
    have c15 := q15.cell
    have f15 := q15.frozen
    have l15 := q15.lt
    go_wp2
    refine Rel.wp_region_rel SpecTurns (by kernel_rfl) (lexB_of_fast (by kernel_rfl) (by kernel_rfl)) ?_
    repeat (first
      | (refine rel_arith (by rfl) rfl (by rfl) rfl rfl ?_; intro b1 H1; simp only [Act.put, List.setIfInBounds_toArray, List.set_cons_zero, List.set_cons_succ])
      | (refine rel_call (f := 34) (args := #[.agg #[.float .f64 _, .float .f64 _, .float .f64 _, .float .f64 _, .float .f64 _, .float .f64 _, .float .f64 _, .float .f64 _, .float .f64 _], .agg #[.float .f64 _, .float .f64 _, .float .f64 _]]) (by rfl) rfl (callAt_func rfl Try.func34 (by kernel_rfl) (by kernel_rfl) rfl) (keeps_over (fun v h => h) fun x => apply_walk _ _ _ _ _ _ _ _ _ _ _ _ _) ?_; rintro _ ⟨d1, d2, d3, rfl, k1, k2, k3⟩; have J1 := Lib.hid (k1.trans (congrArg (fun m => (app m _).x) GP.out)); have J2 := Lib.hid (k2.trans (congrArg (fun m => (app m _).y) GP.out)); have J3 := Lib.hid (k3.trans (congrArg (fun m => (app m _).z) GP.out)); clear k1 k2 k3; simp only [Act.put, List.setIfInBounds_toArray, List.set_cons_zero, List.set_cons_succ])
      | (refine rel_call (f := 33) (args := #[.agg #[.float .f64 _, .float .f64 _, .float .f64 _, .float .f64 _, .float .f64 _, .float .f64 _, .float .f64 _, .float .f64 _, .float .f64 _], .agg #[.float .f64 _, .float .f64 _, .float .f64 _]]) (by rfl) rfl (callAt_func rfl Try.func33 (by kernel_rfl) (by kernel_rfl) rfl) (keeps_over (fun v h => h) fun x => applyTo_walk _ _ _ _ _ _ _ _ _ _ _ _ _) ?_; rintro _ ⟨c1, c2, c3, rfl, k1, k2, k3⟩; have O1 := Lib.hid (k1.trans (congrArg (fun m => (app m _).x) GR.out)); have O2 := Lib.hid (k2.trans (congrArg (fun m => (app m _).y) GR.out)); have O3 := Lib.hid (k3.trans (congrArg (fun m => (app m _).z) GR.out)); clear k1 k2 k3; simp only [Act.put, List.setIfInBounds_toArray, List.set_cons_zero, List.set_cons_succ])
      | (refine rel_call (f := 25) (args := #[.agg #[.float .f64 _, .float .f64 _, .float .f64 _], .agg #[.float .f64 _, .float .f64 _, .float .f64 _]]) (by rfl) rfl (callAt_func rfl Try.func25 (by kernel_rfl) (by kernel_rfl) rfl) (keeps_over (fun v h => h) fun x => sameVec_walk _ _ _ _ _ _ (J1.out.trans O1.out.symm) (J2.out.trans O2.out.symm) (J3.out.trans O3.out.symm) _) ?_; rintro _ rfl; simp only [Act.put, List.setIfInBounds_toArray, List.set_cons_zero, List.set_cons_succ])
      | (refine rel_plain (by rfl) rfl ?_; intro K hK; go_big_quiet_op; go_big_quiet_on)
      | (refine rel_skip (by rfl) ?_; simp only [Act.put, List.setIfInBounds_toArray, List.set_cons_zero, List.set_cons_succ]))
    refine Rel.wpRel_nil ?_
    intro w9 hB9 hG9
    clear c4 f4 c6 f6 c7 f7 c14 f14 c15 f15
    replace q4 := q4.below hB9
    replace q6 := q6.below hB9
    replace q7 := q7.below hB9
    replace q14 := q14.below hB9
    replace q15 := q15.below hB9
    clear hG9
    replace HG : Hid (Below w.heap.size w w9) := Lib.hid (Grow.grow_trans HG.out hB9)
    replace HZ : w.heap.size ≤ w9.heap.size := Below.size HG.out
    clear hB9
    have c4 := q4.cell
    have f4 := q4.frozen
    have l4 := q4.lt
    have c6 := q6.cell
    have f6 := q6.frozen
    have l6 := q6.lt
    have c7 := q7.cell
    have f7 := q7.frozen
    have l7 := q7.lt
    have c14 := q14.cell
    have f14 := q14.frozen
    have l14 := q14.lt
    have c15 := q15.cell
    have f15 := q15.frozen
    have l15 := q15.lt
    go_wp2_with (first
      | (clear s10
         go_at_call 36
         refine Grow.seal_calls ?_
         intro W hW
         have HG2 : Hid (Below w.heap.size w W) := Lib.hid (by rw [hW.out]; (repeat (with_reducible first | exact Grow.grow_refl _ | refine Grow.grow_setCell ?_ ?_ _ | refine Grow.grow_alloc ?_ _ | refine Grow.grow_drewN ?_ _ | refine Grow.grow_over ?_ _ | refine Grow.grow_via (by assumption) ?_)) <;> omega)
         clear HG
         have HG := HG2
         clear HG2
         clear c4 f4 c6 f6 c7 f7 c14 f14 c15 f15
         apply Grow.have_known (W := W)
         · rw [hW.out]; apply Known.at q4; (repeat (with_reducible first | exact q4 | apply Known.same | apply Known.other | apply Known.alloc | apply Known.drewN)) <;> omega
         clear q4
         intro q4
         (try simp only [List.setIfInBounds_toArray, List.set_cons_zero, List.set_cons_succ] at q4)
         apply Grow.have_known (W := W)
         · rw [hW.out]; apply Known.at q6; (repeat (with_reducible first | exact q6 | apply Known.same | apply Known.other | apply Known.alloc | apply Known.drewN)) <;> omega
         clear q6
         intro q6
         (try simp only [List.setIfInBounds_toArray, List.set_cons_zero, List.set_cons_succ] at q6)
         apply Grow.have_known (W := W)
         · rw [hW.out]; apply Known.at q7; (repeat (with_reducible first | exact q7 | apply Known.same | apply Known.other | apply Known.alloc | apply Known.drewN)) <;> omega
         clear q7
         intro q7
         (try simp only [List.setIfInBounds_toArray, List.set_cons_zero, List.set_cons_succ] at q7)
         apply Grow.have_known (W := W)
         · rw [hW.out]; apply Known.at q14; (repeat (with_reducible first | exact q14 | apply Known.same | apply Known.other | apply Known.alloc | apply Known.drewN)) <;> omega
         clear q14
         intro q14
         (try simp only [List.setIfInBounds_toArray, List.set_cons_zero, List.set_cons_succ] at q14)
         apply Grow.have_known (W := W)
         · rw [hW.out]; apply Known.at q15; (repeat (with_reducible first | exact q15 | apply Known.same | apply Known.other | apply Known.alloc | apply Known.drewN)) <;> omega
         clear q15
         intro q15
         (try simp only [List.setIfInBounds_toArray, List.set_cons_zero, List.set_cons_succ] at q15)
         replace HZ : w.heap.size ≤ W.heap.size := Below.size HG.out
         clear hW
         refine (turned_walk _ _ _ _ _ _ _ _ _ _).mono ?_
         rintro e w1 hp
         obtain ⟨v, rfl, hp, hB⟩ := hp
         subst hp
         skip
         replace q4 := q4.below hB
         replace q6 := q6.below hB
         replace q7 := q7.below hB
         replace q14 := q14.below hB
         replace q15 := q15.below hB
         replace HG : Hid (Below w.heap.size w w1) := Lib.hid (Grow.grow_trans HG.out hB)
         replace HZ : w.heap.size ≤ w1.heap.size := Below.size HG.out
         clear hB
         have c4 := q4.cell; have f4 := q4.frozen; have l4 := q4.lt
         have c6 := q6.cell; have f6 := q6.frozen; have l6 := q6.lt
         have c7 := q7.cell; have f7 := q7.frozen; have l7 := q7.lt
         have c14 := q14.cell; have f14 := q14.frozen; have l14 := q14.lt
         have c15 := q15.cell; have f15 := q15.frozen; have l15 := q15.lt
         have s11 := trivial)
      | (clear s11
         go_at_call 35
         refine Grow.seal_calls ?_
         intro W hW
         have HG2 : Hid (Below w.heap.size w W) := Lib.hid (by rw [hW.out]; (repeat (with_reducible first | exact Grow.grow_refl _ | refine Grow.grow_setCell ?_ ?_ _ | refine Grow.grow_alloc ?_ _ | refine Grow.grow_drewN ?_ _ | refine Grow.grow_over ?_ _ | refine Grow.grow_via (by assumption) ?_)) <;> omega)
         clear HG
         have HG := HG2
         clear HG2
         clear c4 f4 c6 f6 c7 f7 c14 f14 c15 f15
         apply Grow.have_known (W := W)
         · rw [hW.out]; apply Known.at q4; (repeat (with_reducible first | exact q4 | apply Known.same | apply Known.other | apply Known.alloc | apply Known.drewN)) <;> omega
         clear q4
         intro q4
         (try simp only [List.setIfInBounds_toArray, List.set_cons_zero, List.set_cons_succ] at q4)
         apply Grow.have_known (W := W)
         · rw [hW.out]; apply Known.at q6; (repeat (with_reducible first | exact q6 | apply Known.same | apply Known.other | apply Known.alloc | apply Known.drewN)) <;> omega
         clear q6
         intro q6
         (try simp only [List.setIfInBounds_toArray, List.set_cons_zero, List.set_cons_succ] at q6)
         apply Grow.have_known (W := W)
         · rw [hW.out]; apply Known.at q7; (repeat (with_reducible first | exact q7 | apply Known.same | apply Known.other | apply Known.alloc | apply Known.drewN)) <;> omega
         clear q7
         intro q7
         (try simp only [List.setIfInBounds_toArray, List.set_cons_zero, List.set_cons_succ] at q7)
         apply Grow.have_known (W := W)
         · rw [hW.out]; apply Known.at q14; (repeat (with_reducible first | exact q14 | apply Known.same | apply Known.other | apply Known.alloc | apply Known.drewN)) <;> omega
         clear q14
         intro q14
         (try simp only [List.setIfInBounds_toArray, List.set_cons_zero, List.set_cons_succ] at q14)
         apply Grow.have_known (W := W)
         · rw [hW.out]; apply Known.at q15; (repeat (with_reducible first | exact q15 | apply Known.same | apply Known.other | apply Known.alloc | apply Known.drewN)) <;> omega
         clear q15
         intro q15
         (try simp only [List.setIfInBounds_toArray, List.set_cons_zero, List.set_cons_succ] at q15)
         replace HZ : w.heap.size ≤ W.heap.size := Below.size HG.out
         clear hW
         refine (lmatrix_walk _ _ _ _ _ _ _ _ _ _).mono ?_
         rintro e w1 hp
         obtain ⟨v, rfl, hp, hB⟩ := hp
         subst hp
         skip
         replace q4 := q4.below hB
         replace q6 := q6.below hB
         replace q7 := q7.below hB
         replace q14 := q14.below hB
         replace q15 := q15.below hB
         replace HG : Hid (Below w.heap.size w w1) := Lib.hid (Grow.grow_trans HG.out hB)
         replace HZ : w.heap.size ≤ w1.heap.size := Below.size HG.out
         clear hB
         have c4 := q4.cell; have f4 := q4.frozen; have l4 := q4.lt
         have c6 := q6.cell; have f6 := q6.frozen; have l6 := q6.lt
         have c7 := q7.cell; have f7 := q7.frozen; have l7 := q7.lt
         have c14 := q14.cell; have f14 := q14.frozen; have l14 := q14.lt
         have c15 := q15.cell; have f15 := q15.frozen; have l15 := q15.lt
         have s12 := trivial)
      | (clear s12
         go_at_call 25
         refine Grow.seal_calls ?_
         intro W hW
         have HG2 : Hid (Below w.heap.size w W) := Lib.hid (by rw [hW.out]; (repeat (with_reducible first | exact Grow.grow_refl _ | refine Grow.grow_setCell ?_ ?_ _ | refine Grow.grow_alloc ?_ _ | refine Grow.grow_drewN ?_ _ | refine Grow.grow_over ?_ _ | refine Grow.grow_via (by assumption) ?_)) <;> omega)
         clear HG
         have HG := HG2
         clear HG2
         clear c4 f4 c6 f6 c7 f7 c14 f14 c15 f15
         apply Grow.have_known (W := W)
         · rw [hW.out]; apply Known.at q4; (repeat (with_reducible first | exact q4 | apply Known.same | apply Known.other | apply Known.alloc | apply Known.drewN)) <;> omega
         clear q4
         intro q4
         (try simp only [List.setIfInBounds_toArray, List.set_cons_zero, List.set_cons_succ] at q4)
         apply Grow.have_known (W := W)
         · rw [hW.out]; apply Known.at q6; (repeat (with_reducible first | exact q6 | apply Known.same | apply Known.other | apply Known.alloc | apply Known.drewN)) <;> omega
         clear q6
         intro q6
         (try simp only [List.setIfInBounds_toArray, List.set_cons_zero, List.set_cons_succ] at q6)
         apply Grow.have_known (W := W)
         · rw [hW.out]; apply Known.at q7; (repeat (with_reducible first | exact q7 | apply Known.same | apply Known.other | apply Known.alloc | apply Known.drewN)) <;> omega
         clear q7
         intro q7
         (try simp only [List.setIfInBounds_toArray, List.set_cons_zero, List.set_cons_succ] at q7)
         apply Grow.have_known (W := W)
         · rw [hW.out]; apply Known.at q14; (repeat (with_reducible first | exact q14 | apply Known.same | apply Known.other | apply Known.alloc | apply Known.drewN)) <;> omega
         clear q14
         intro q14
         (try simp only [List.setIfInBounds_toArray, List.set_cons_zero, List.set_cons_succ] at q14)
         apply Grow.have_known (W := W)
         · rw [hW.out]; apply Known.at q15; (repeat (with_reducible first | exact q15 | apply Known.same | apply Known.other | apply Known.alloc | apply Known.drewN)) <;> omega
         clear q15
         intro q15
         (try simp only [List.setIfInBounds_toArray, List.set_cons_zero, List.set_cons_succ] at q15)
         apply Grow.have_known (W := W) (b := w1.heap.size)
         · rw [hW.out]; (repeat (with_reducible first | exact Known.new _ _ _ | apply Known.same | apply Known.other | apply Known.alloc | apply Known.drewN)) <;> omega
         intro q21
         (try simp only [World.size_alloc, World.size_setCell, World.heap_drewN] at q21)
         (try simp only [List.setIfInBounds_toArray, List.set_cons_zero, List.set_cons_succ] at q21)
         have m21 := q21.ge (n := w.heap.size) (by omega)
         apply Grow.have_known (W := W) (b := _)
         · rw [hW.out]; (repeat (with_reducible first | exact Known.new _ _ _ | apply Known.same | apply Known.other | apply Known.alloc | apply Known.drewN)) <;> omega
         intro q22
         (try simp only [World.size_alloc, World.size_setCell, World.heap_drewN] at q22)
         (try simp only [List.setIfInBounds_toArray, List.set_cons_zero, List.set_cons_succ] at q22)
         have m22 := q22.ge (n := w.heap.size) (by omega)
         replace HZ : w.heap.size ≤ W.heap.size := Below.size HG.out
         clear hW
         refine (sameVec_walk _ _ _ _ _ _ (congrArg (fun m => m.a.x) (GP.out.trans GR.out.symm)) (congrArg (fun m => m.b.x) (GP.out.trans GR.out.symm)) (congrArg (fun m => m.c.x) (GP.out.trans GR.out.symm)) _).mono ?_
         rintro e w1 hp
         obtain ⟨v, rfl, hp, hB⟩ := hp
         subst hp
         skip
         replace q4 := q4.below hB
         replace q6 := q6.below hB
         replace q7 := q7.below hB
         replace q14 := q14.below hB
         replace q15 := q15.below hB
         replace q21 := q21.below hB
         replace q22 := q22.below hB
         replace HG : Hid (Below w.heap.size w w1) := Lib.hid (Grow.grow_trans HG.out hB)
         replace HZ : w.heap.size ≤ w1.heap.size := Below.size HG.out
         clear hB
         have c4 := q4.cell; have f4 := q4.frozen; have l4 := q4.lt
         have c6 := q6.cell; have f6 := q6.frozen; have l6 := q6.lt
         have c7 := q7.cell; have f7 := q7.frozen; have l7 := q7.lt
         have c14 := q14.cell; have f14 := q14.frozen; have l14 := q14.lt
         have c15 := q15.cell; have f15 := q15.frozen; have l15 := q15.lt
         have c21 := q21.cell; have f21 := q21.frozen; have l21 := q21.lt
         have c22 := q22.cell; have f22 := q22.frozen; have l22 := q22.lt
         have s13 := trivial)
      | (clear s13
         go_at_call 25
         refine Grow.seal_calls ?_
         intro W hW
         have HG2 : Hid (Below w.heap.size w W) := Lib.hid (by rw [hW.out]; (repeat (with_reducible first | exact Grow.grow_refl _ | refine Grow.grow_setCell ?_ ?_ _ | refine Grow.grow_alloc ?_ _ | refine Grow.grow_drewN ?_ _ | refine Grow.grow_over ?_ _ | refine Grow.grow_via (by assumption) ?_)) <;> omega)
         clear HG
         have HG := HG2
         clear HG2
         clear c4 f4 c6 f6 c7 f7 c14 f14 c15 f15 c21 f21 c22 f22
         apply Grow.have_known (W := W)
         · rw [hW.out]; apply Known.at q4; (repeat (with_reducible first | exact q4 | apply Known.same | apply Known.other | apply Known.alloc | apply Known.drewN)) <;> omega
         clear q4
         intro q4
         (try simp only [List.setIfInBounds_toArray, List.set_cons_zero, List.set_cons_succ] at q4)
         apply Grow.have_known (W := W)
         · rw [hW.out]; apply Known.at q6; (repeat (with_reducible first | exact q6 | apply Known.same | apply Known.other | apply Known.alloc | apply Known.drewN)) <;> omega
         clear q6
         intro q6
         (try simp only [List.setIfInBounds_toArray, List.set_cons_zero, List.set_cons_succ] at q6)
         apply Grow.have_known (W := W)
         · rw [hW.out]; apply Known.at q7; (repeat (with_reducible first | exact q7 | apply Known.same | apply Known.other | apply Known.alloc | apply Known.drewN)) <;> omega
         clear q7
         intro q7
         (try simp only [List.setIfInBounds_toArray, List.set_cons_zero, List.set_cons_succ] at q7)
         apply Grow.have_known (W := W)
         · rw [hW.out]; apply Known.at q14; (repeat (with_reducible first | exact q14 | apply Known.same | apply Known.other | apply Known.alloc | apply Known.drewN)) <;> omega
         clear q14
         intro q14
         (try simp only [List.setIfInBounds_toArray, List.set_cons_zero, List.set_cons_succ] at q14)
         apply Grow.have_known (W := W)
         · rw [hW.out]; apply Known.at q15; (repeat (with_reducible first | exact q15 | apply Known.same | apply Known.other | apply Known.alloc | apply Known.drewN)) <;> omega
         clear q15
         intro q15
         (try simp only [List.setIfInBounds_toArray, List.set_cons_zero, List.set_cons_succ] at q15)
         apply Grow.have_known (W := W)
         · rw [hW.out]; apply Known.at q21; (repeat (with_reducible first | exact q21 | apply Known.same | apply Known.other | apply Known.alloc | apply Known.drewN)) <;> omega
         clear q21
         intro q21
         (try simp only [List.setIfInBounds_toArray, List.set_cons_zero, List.set_cons_succ] at q21)
         apply Grow.have_known (W := W)
         · rw [hW.out]; apply Known.at q22; (repeat (with_reducible first | exact q22 | apply Known.same | apply Known.other | apply Known.alloc | apply Known.drewN)) <;> omega
         clear q22
         intro q22
         (try simp only [List.setIfInBounds_toArray, List.set_cons_zero, List.set_cons_succ] at q22)
         replace HZ : w.heap.size ≤ W.heap.size := Below.size HG.out
         clear hW
         refine (sameVec_walk _ _ _ _ _ _ (congrArg (fun m => m.a.y) (GP.out.trans GR.out.symm)) (congrArg (fun m => m.b.y) (GP.out.trans GR.out.symm)) (congrArg (fun m => m.c.y) (GP.out.trans GR.out.symm)) _).mono ?_
         rintro e w1 hp
         obtain ⟨v, rfl, hp, hB⟩ := hp
         subst hp
         skip
         replace q4 := q4.below hB
         replace q6 := q6.below hB
         replace q7 := q7.below hB
         replace q14 := q14.below hB
         replace q15 := q15.below hB
         replace q21 := q21.below hB
         replace q22 := q22.below hB
         replace HG : Hid (Below w.heap.size w w1) := Lib.hid (Grow.grow_trans HG.out hB)
         replace HZ : w.heap.size ≤ w1.heap.size := Below.size HG.out
         clear hB
         have c4 := q4.cell; have f4 := q4.frozen; have l4 := q4.lt
         have c6 := q6.cell; have f6 := q6.frozen; have l6 := q6.lt
         have c7 := q7.cell; have f7 := q7.frozen; have l7 := q7.lt
         have c14 := q14.cell; have f14 := q14.frozen; have l14 := q14.lt
         have c15 := q15.cell; have f15 := q15.frozen; have l15 := q15.lt
         have c21 := q21.cell; have f21 := q21.frozen; have l21 := q21.lt
         have c22 := q22.cell; have f22 := q22.frozen; have l22 := q22.lt
         have s14 := trivial)
      | (clear s14
         go_at_call 25
         refine Grow.seal_calls ?_
         intro W hW
         have HG2 : Hid (Below w.heap.size w W) := Lib.hid (by rw [hW.out]; (repeat (with_reducible first | exact Grow.grow_refl _ | refine Grow.grow_setCell ?_ ?_ _ | refine Grow.grow_alloc ?_ _ | refine Grow.grow_drewN ?_ _ | refine Grow.grow_over ?_ _ | refine Grow.grow_via (by assumption) ?_)) <;> omega)
         clear HG
         have HG := HG2
         clear HG2
         clear c4 f4 c6 f6 c7 f7 c14 f14 c15 f15 c21 f21 c22 f22
         apply Grow.have_known (W := W)
         · rw [hW.out]; apply Known.at q4; (repeat (with_reducible first | exact q4 | apply Known.same | apply Known.other | apply Known.alloc | apply Known.drewN)) <;> omega
         clear q4
         intro q4
         (try simp only [List.setIfInBounds_toArray, List.set_cons_zero, List.set_cons_succ] at q4)
         apply Grow.have_known (W := W)
         · rw [hW.out]; apply Known.at q6; (repeat (with_reducible first | exact q6 | apply Known.same | apply Known.other | apply Known.alloc | apply Known.drewN)) <;> omega
         clear q6
         intro q6
         (try simp only [List.setIfInBounds_toArray, List.set_cons_zero, List.set_cons_succ] at q6)
         apply Grow.have_known (W := W)
         · rw [hW.out]; apply Known.at q7; (repeat (with_reducible first | exact q7 | apply Known.same | apply Known.other | apply Known.alloc | apply Known.drewN)) <;> omega
         clear q7
         intro q7
         (try simp only [List.setIfInBounds_toArray, List.set_cons_zero, List.set_cons_succ] at q7)
         apply Grow.have_known (W := W)
         · rw [hW.out]; apply Known.at q14; (repeat (with_reducible first | exact q14 | apply Known.same | apply Known.other | apply Known.alloc | apply Known.drewN)) <;> omega
         clear q14
         intro q14
         (try simp only [List.setIfInBounds_toArray, List.set_cons_zero, List.set_cons_succ] at q14)
         apply Grow.have_known (W := W)
         · rw [hW.out]; apply Known.at q15; (repeat (with_reducible first | exact q15 | apply Known.same | apply Known.other | apply Known.alloc | apply Known.drewN)) <;> omega
         clear q15
         intro q15
         (try simp only [List.setIfInBounds_toArray, List.set_cons_zero, List.set_cons_succ] at q15)
         apply Grow.have_known (W := W)
         · rw [hW.out]; apply Known.at q21; (repeat (with_reducible first | exact q21 | apply Known.same | apply Known.other | apply Known.alloc | apply Known.drewN)) <;> omega
         clear q21
         intro q21
         (try simp only [List.setIfInBounds_toArray, List.set_cons_zero, List.set_cons_succ] at q21)
         apply Grow.have_known (W := W)
         · rw [hW.out]; apply Known.at q22; (repeat (with_reducible first | exact q22 | apply Known.same | apply Known.other | apply Known.alloc | apply Known.drewN)) <;> omega
         clear q22
         intro q22
         (try simp only [List.setIfInBounds_toArray, List.set_cons_zero, List.set_cons_succ] at q22)
         replace HZ : w.heap.size ≤ W.heap.size := Below.size HG.out
         clear hW
         refine (sameVec_walk _ _ _ _ _ _ (congrArg (fun m => m.a.z) (GP.out.trans GR.out.symm)) (congrArg (fun m => m.b.z) (GP.out.trans GR.out.symm)) (congrArg (fun m => m.c.z) (GP.out.trans GR.out.symm)) _).mono ?_
         rintro e w1 hp
         obtain ⟨v, rfl, hp, hB⟩ := hp
         subst hp
         skip
         replace q4 := q4.below hB
         replace q6 := q6.below hB
         replace q7 := q7.below hB
         replace q14 := q14.below hB
         replace q15 := q15.below hB
         replace q21 := q21.below hB
         replace q22 := q22.below hB
         replace HG : Hid (Below w.heap.size w w1) := Lib.hid (Grow.grow_trans HG.out hB)
         replace HZ : w.heap.size ≤ w1.heap.size := Below.size HG.out
         clear hB
         have c4 := q4.cell; have f4 := q4.frozen; have l4 := q4.lt
         have c6 := q6.cell; have f6 := q6.frozen; have l6 := q6.lt
         have c7 := q7.cell; have f7 := q7.frozen; have l7 := q7.lt
         have c14 := q14.cell; have f14 := q14.frozen; have l14 := q14.lt
         have c15 := q15.cell; have f15 := q15.frozen; have l15 := q15.lt
         have c21 := q21.cell; have f21 := q21.frozen; have l21 := q21.lt
         have c22 := q22.cell; have f22 := q22.frozen; have l22 := q22.lt
         have s15 := trivial))
    go_ret
    refine Post.mk (T := fun v => v = _) (by simp) ?_
    (repeat (with_reducible first
          | exact Grow.grow_refl _
          | refine Grow.grow_setCell ?_ ?_ _
          | refine Grow.grow_alloc ?_ _
          | refine Grow.grow_drewN ?_ _
          | refine Grow.grow_over ?_ _
          | refine Grow.grow_via (by assumption) ?_)) <;> omega

end Go.Proofs.Ytdnclgpjcgamgaa
