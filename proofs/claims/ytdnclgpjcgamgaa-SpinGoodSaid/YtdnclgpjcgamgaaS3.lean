/- The walks of the units, the ways back, the comparisons of quaternions and vectors. -/
import Derived.Test.YtdnclgpjcgamgaaS2
set_option linter.unusedSimpArgs false
set_option linter.unusedVariables false
namespace Go.Proofs.Ytdnclgpjcgamgaa
open Go.RowKit Go.Fl Go.Grow

def qone : Q4 := ⟨some 4607182418800017408, some 0, some 0, some 0⟩
def over1 (a : Q4) (n : Option Nat) : Q4 := ⟨fdiv a.w n, fdiv a.x n, fdiv a.y n, fdiv a.z n⟩
def qunit (a : Q4) : Q4 × Bool := if feq (qsize a) (some 0) || !fin (qsize a) then (qone, false) else (over1 a (qsize a), true)
def IsU (X : Q4 × Bool) (v : Value) : Prop := ∃ q, IsQ X.1 q ∧ v = .tuple #[q, .bool X.2]
def qback (a : Q4) : Q4 := ⟨a.w, fneg a.x, fneg a.y, fneg a.z⟩
theorem fl_one : fl 4607182418800017408 = some 4607182418800017408 := by decide +kernel
theorem order_zero (b : Nat) : (FloatKind.f64.format.order b 0 == some Ordering.eq) = feq (fl b) (some 0) := by
  show (Ieee.double.order b 0 == some Ordering.eq) = _
  rw [order_fl, fl_zero]; rfl

set_option maxHeartbeats 4000000 in
theorem unit_walk (a b c d : Nat) (w : World) :
    Calls Try.prog 21 #[.agg #[.float .f64 a, .float .f64 b, .float .f64 c, .float .f64 d]] w (Post (IsU (qunit ⟨fl a, fl b, fl c, fl d⟩)) w) := by
  cases h0 : feq (qsize ⟨fl a, fl b, fl c, fl d⟩) (some 0) <;> cases hf : fin (qsize ⟨fl a, fl b, fl c, fl d⟩)
  all_goals
    have H0 := Lib.hid h0
    have HF := Lib.hid hf
    clear h0 hf
    have HU : Hid (qunit ⟨fl a, fl b, fl c, fl d⟩ = _) := Lib.hid (by unfold qunit; rw [H0.out, HF.out])
    go_enter Try.func21, Try.ntmps21
    go_wp2_with (first
      | (refine wpList_arith rfl rfl (by rfl) rfl rfl ?_; intro b1 n1 H1)
      | (go_at_call 18; refine (size_walk _ _ _ _ _).mono ?_; rintro e w1 ⟨v, rfl, ⟨n, rfl, hn⟩, hB⟩; have E0 := (order_zero n).trans ((congrArg (fun X => feq X (some 0)) hn).trans H0.out); have HN := Lib.hid hn; clear hn; obtain ⟨hc1, hf1, hz1⟩ := facts hB; have HB1 := Lib.hid hB; clear hB; (try simp only [World.size_alloc] at hc1 hf1 hz1))
      | (go_at_call 61; refine (finite_walk _ _).mono ?_; rintro e w2 ⟨v, rfl, hv, n2, rfl⟩; rw [HN.out, HF.out] at hv; subst hv))
  all_goals
    apply bodyPost_ret
    · simp [results, Try.results21, go_sem, *]; rfl
    · rfl
    · have hu := HU.out
      have h0 := H0.out
      have hf := HF.out
      simp only [Bool.or_self, Bool.not_true, Bool.not_false, Bool.or_true, Bool.or_false, if_true, Bool.false_eq_true, if_false] at hu
      refine Post.mk (T := IsU _) ?_ ?_
      · rw [hu]
        first
          | exact ⟨_, ⟨_, _, _, _, rfl, fl_one, fl_zero, fl_zero, fl_zero⟩, rfl⟩
          | (refine ⟨_, ⟨_, _, _, _, rfl, ?_⟩, rfl⟩
             simp only [Hid, fop] at *
             simp only [over1, *]
             exact ⟨trivial, trivial, trivial, trivial⟩)
      · (repeat (with_reducible first
          | exact Grow.grow_refl _
          | refine Grow.grow_setCell ?_ ?_ _
          | refine Grow.grow_alloc ?_ _
          | refine Grow.grow_drewN ?_ _
          | refine Grow.grow_over ?_ _
          | refine Grow.grow_via (by assumption) ?_)) <;> omega

set_option maxHeartbeats 4000000 in
theorem unitOf_walk (a b c d : Nat) (w : World) :
    Calls Try.prog 22 #[.agg #[.float .f64 a, .float .f64 b, .float .f64 c, .float .f64 d]] w (Post (IsU (qunit ⟨fl a, fl b, fl c, fl d⟩)) w) := by
  cases h0 : feq (qsize ⟨fl a, fl b, fl c, fl d⟩) (some 0) <;> cases hf : fin (qsize ⟨fl a, fl b, fl c, fl d⟩)
  all_goals
    have H0 := Lib.hid h0
    have HF := Lib.hid hf
    clear h0 hf
    have HU : Hid (qunit ⟨fl a, fl b, fl c, fl d⟩ = _) := Lib.hid (by unfold qunit; rw [H0.out, HF.out])
    go_enter Try.func22, Try.ntmps22
    go_wp2_with (first
      | (refine wpList_arith rfl rfl (by rfl) rfl rfl ?_; intro b1 n1 H1)
      | (go_at_call 19; refine (sizeOf_walk _ _ _ _ _).mono ?_; rintro e w1 ⟨v, rfl, ⟨n, rfl, hn⟩, hB⟩; have E0 := (order_zero n).trans ((congrArg (fun X => feq X (some 0)) hn).trans H0.out); have HN := Lib.hid hn; clear hn; obtain ⟨hc1, hf1, hz1⟩ := facts hB; have HB1 := Lib.hid hB; clear hB; (try simp only [World.size_alloc] at hc1 hf1 hz1))
      | (go_at_call 62; refine (finiteRef_walk _ _).mono ?_; rintro e w2 ⟨v, rfl, hv, n2, rfl⟩; rw [HN.out, HF.out] at hv; subst hv))
  all_goals
    apply bodyPost_ret
    · simp [results, Try.results22, go_sem, *]; rfl
    · rfl
    · have hu := HU.out
      have h0 := H0.out
      have hf := HF.out
      simp only [Bool.or_self, Bool.not_true, Bool.not_false, Bool.or_true, Bool.or_false, if_true, Bool.false_eq_true, if_false] at hu
      refine Post.mk (T := IsU _) ?_ ?_
      · rw [hu]
        first
          | exact ⟨_, ⟨_, _, _, _, rfl, fl_one, fl_zero, fl_zero, fl_zero⟩, rfl⟩
          | (refine ⟨_, ⟨_, _, _, _, rfl, ?_⟩, rfl⟩
             simp only [Hid, fop] at *
             simp only [over1, *]
             exact ⟨trivial, trivial, trivial, trivial⟩)
      · (repeat (with_reducible first
          | exact Grow.grow_refl _
          | refine Grow.grow_setCell ?_ ?_ _
          | refine Grow.grow_alloc ?_ _
          | refine Grow.grow_drewN ?_ _
          | refine Grow.grow_over ?_ _
          | refine Grow.grow_via (by assumption) ?_)) <;> omega

end Go.Proofs.Ytdnclgpjcgamgaa
