/- The walks of the ways back and of the comparisons of quaternions and vectors. -/
import Derived.Test.YtdnclgpjcgamgaaS3
set_option linter.unusedSimpArgs false
set_option linter.unusedVariables false
namespace Go.Proofs.Ytdnclgpjcgamgaa
open Go.RowKit Go.Fl Go.Grow

set_option maxHeartbeats 4000000 in
theorem q_walk (a b c d : Nat) (w : World) :
    Calls Try.prog 14 #[.agg #[.float .f64 a, .float .f64 b, .float .f64 c, .float .f64 d]] w (Post (fun v => v = .agg #[.float .f64 a, .float .f64 b, .float .f64 c, .float .f64 d]) w) := by
  go_enter Try.func14, Try.ntmps14
  go_wp2
  apply bodyPost_ret
  · simp [results, Try.results14, go_sem]; rfl
  · rfl
  · refine Post.mk (T := fun v => v = _) rfl ?_
    (repeat (with_reducible first
      | exact Grow.grow_refl _
      | refine Grow.grow_setCell ?_ ?_ _
      | refine Grow.grow_alloc ?_ _
      | refine Grow.grow_drewN ?_ _
      | refine Grow.grow_over ?_ _
      | refine Grow.grow_via (by assumption) ?_)) <;> omega

set_option maxHeartbeats 4000000 in
theorem back_walk (a b c d : Nat) (w : World) :
    Calls Try.prog 20 #[.agg #[.float .f64 a, .float .f64 b, .float .f64 c, .float .f64 d]] w (Post (fun v => v = .agg #[.float .f64 a, .float .f64 (Op.negFloat .f64 b), .float .f64 (Op.negFloat .f64 c), .float .f64 (Op.negFloat .f64 d)]) w) := by
  go_enter Try.func20, Try.ntmps20
  go_wp2
  apply bodyPost_ret
  · simp [results, Try.results20, go_sem]; rfl
  · rfl
  · refine Post.mk (T := fun v => v = _) rfl ?_
    (repeat (with_reducible first
      | exact Grow.grow_refl _
      | refine Grow.grow_setCell ?_ ?_ _
      | refine Grow.grow_alloc ?_ _
      | refine Grow.grow_drewN ?_ _
      | refine Grow.grow_over ?_ _
      | refine Grow.grow_via (by assumption) ?_)) <;> omega

set_option maxRecDepth 100000 in
set_option maxHeartbeats 4000000 in
theorem sameVec_walk (a b c d e f : Nat) (h1 : fl a = fl d) (h2 : fl b = fl e) (h3 : fl c = fl f) (w : World) :
    Calls Try.prog 25 #[.agg #[.float .f64 a, .float .f64 b, .float .f64 c], .agg #[.float .f64 d, .float .f64 e, .float .f64 f]] w (Post (fun v => v = .bool true) w) := by
  have H1 := Lib.hid h1
  have H2 := Lib.hid h2
  have H3 := Lib.hid h3
  clear h1 h2 h3
  go_enter Try.func25, Try.ntmps25
  go_wp2_with (go_at_call 17; (first
    | ((with_reducible refine (sameBits_walk _ _ H1.out _).mono ?_))
    | ((with_reducible refine (sameBits_walk _ _ H2.out _).mono ?_))
    | ((with_reducible refine (sameBits_walk _ _ H3.out _).mono ?_))); rintro e w1 ⟨v, rfl, rfl, n, rfl⟩)
  go_ret
  refine Post.mk (T := fun v => v = _) rfl ?_
  (repeat (with_reducible first
        | exact Grow.grow_refl _
        | refine Grow.grow_setCell ?_ ?_ _
        | refine Grow.grow_alloc ?_ _
        | refine Grow.grow_drewN ?_ _
        | refine Grow.grow_over ?_ _
        | refine Grow.grow_via (by assumption) ?_)) <;> omega

set_option maxRecDepth 100000 in
set_option maxHeartbeats 4000000 in
theorem sameQ_walk (a b c d e f g h : Nat) (h0 : fl a = fl e) (h1 : fl b = fl f) (h2 : fl c = fl g) (h3 : fl d = fl h) (w : World) :
    Calls Try.prog 13 #[.agg #[.float .f64 a, .float .f64 b, .float .f64 c, .float .f64 d], .agg #[.float .f64 e, .float .f64 f, .float .f64 g, .float .f64 h]] w (Post (fun v => v = .bool true) w) := by
  have H0 := Lib.hid h0
  have H1 := Lib.hid h1
  have H2 := Lib.hid h2
  have H3 := Lib.hid h3
  clear h0 h1 h2 h3
  go_enter Try.func13, Try.ntmps13
  go_wp2_with (first
    | (go_at_call 17; ((with_reducible refine (sameBits_walk _ _ H0.out _).mono ?_)); rintro e w1 ⟨v, rfl, rfl, n, rfl⟩)
    | (go_at_call 25; refine (sameVec_walk _ _ _ _ _ _ H1.out H2.out H3.out _).mono ?_; rintro e w1 ⟨v, rfl, rfl, hB⟩; obtain ⟨hc1, hf1, hz1⟩ := facts hB; have HB1 := Lib.hid hB; clear hB))
  go_ret
  refine Post.mk (T := fun v => v = _) rfl ?_
  (repeat (with_reducible first
        | exact Grow.grow_refl _
        | refine Grow.grow_setCell ?_ ?_ _
        | refine Grow.grow_alloc ?_ _
        | refine Grow.grow_drewN ?_ _
        | refine Grow.grow_over ?_ _
        | refine Grow.grow_via (by assumption) ?_)) <;> omega

def turnsQ : Q4 := qtimes ⟨some 4607182418800017408, some 0, some 0, some 0⟩ ⟨some 0, some 4611686018427387904, some 0, some 0⟩
theorem turns_val : turnsQ.w = some 0 ∧ turnsQ.x = some 4611686018427387904 ∧ turnsQ.y = some 0 ∧ turnsQ.z = some 0 := by decide +kernel
theorem fl_two : fl 4611686018427387904 = some 4611686018427387904 := by decide +kernel

set_option maxHeartbeats 4000000 in
theorem turns_walk (w : World) : Calls Try.prog 12 #[] w (Post (fun v => v = .bool true) w) := by
  have o1 : (FloatKind.f64.format.order 4611686018427387904 4611686018427387904 == some Ordering.eq) = true := by decide +kernel
  have o2 : (FloatKind.f64.format.order 0 0 == some Ordering.eq) = true := by decide +kernel
  go_enter Try.func12, Try.ntmps12
  go_wp2_with (go_at_call 15; refine (times_walk _ _ _ _ _ _ _ _ _).mono ?_; rintro e w1 ⟨v, rfl, ⟨b1, b2, b3, b4, rfl, g1, g2, g3, g4⟩, hB⟩; rw [fl_one, fl_zero, fl_two] at g1 g2 g3 g4; obtain rfl := fl_some (g1.trans turns_val.1); obtain rfl := fl_some (g2.trans turns_val.2.1); obtain rfl := fl_some (g3.trans turns_val.2.2.1); obtain rfl := fl_some (g4.trans turns_val.2.2.2); clear g1 g2 g3 g4; obtain ⟨hc1, hf1, hz1⟩ := facts hB; have HB1 := Lib.hid hB; clear hB)
  go_ret
  refine Post.mk (T := fun v => v = _) rfl ?_
  (repeat (with_reducible first
        | exact Grow.grow_refl _
        | refine Grow.grow_setCell ?_ ?_ _
        | refine Grow.grow_alloc ?_ _
        | refine Grow.grow_drewN ?_ _
        | refine Grow.grow_over ?_ _
        | refine Grow.grow_via (by assumption) ?_)) <;> omega

end Go.Proofs.Ytdnclgpjcgamgaa
