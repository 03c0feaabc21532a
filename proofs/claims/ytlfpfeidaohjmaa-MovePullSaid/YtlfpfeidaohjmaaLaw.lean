/- MovePull: the law's walk. -/
import Derived.Test.YtlfpfeidaohjmaaW3
import Derived.Test.YtlfpfeidaohjmaaEq
namespace Go.Proofs.Ytlfpfeidaohjmaa
open Go.RowKit

theorem pullZ_neg (x y z n : Int) : pullZ (-x) (-y) (-z) (-n) = -pullZ x y z n := by
  have e : insB (-x) (-y) (-z) 2097152 = insB x y z 2097152 := by
    unfold insB
    rw [Bool.eq_iff_iff]; simp; omega
  have e2 : r2Z (-x) (-y) (-z) = r2Z x y z := by unfold r2Z; simp only [Int.neg_mul_neg]
  unfold pullZ
  rw [e, e2]
  split
  · exact shareZ_neg ..
  · rfl

theorem pullZ_bd (x y z n : Int) (h : insB x y z 2097152 = true → -2097152 ≤ n ∧ n ≤ 2097152) : -2251799813685248 ≤ pullZ x y z n ∧ pullZ x y z n ≤ 2251799813685248 := by
  unfold pullZ
  split
  · rename_i hb
    obtain ⟨h1, h2⟩ := h hb
    obtain ⟨x1, x2, y1, y2, z1, z2⟩ := insB_true hb
    obtain ⟨a1, a2⟩ := sq_bd x1 x2
    obtain ⟨b1, b2⟩ := sq_bd y1 y2
    obtain ⟨c1, c2⟩ := sq_bd z1 z2
    unfold shareZ
    obtain ⟨p1, p2⟩ := tdiv_abs (a := n * 1073741824) (b := r2Z x y z + 64) (B := 2251799813685248) (by unfold r2Z; omega) (by omega) (by omega)
    exact tdiv_abs (b := _ + 8) (B := 2251799813685248) (by omega) p1 p2
  · omega

theorem pull100 : pullZ 100 0 0 100 = 98788 ∧ pullZ 100 0 0 0 = 0 := by decide +kernel

set_option maxHeartbeats 4000000 in
theorem law_walk (x y z : Int) (w : World) :
    Calls Try.prog 3 #[.agg #[.int .i64 x, .int .i64 y, .int .i64 z]] w fun e w' => e = .returned (.bool true) ∧ Below w.heap.size w w' := by
  have hp := pull100
  have HP := Lib.hid hp
  clear hp
  by_cases hin : -1099511627776 ≤ x ∧ x ≤ 1099511627776 ∧ -1099511627776 ≤ y ∧ y ≤ 1099511627776 ∧ -1099511627776 ≤ z ∧ z ≤ 1099511627776
  · obtain ⟨i1, i2, i3, i4, i5, i6⟩ := hin
    obtain ⟨p, ep⟩ : ∃ p, p = pullZ x y z x := ⟨_, rfl⟩
    obtain ⟨q, eq⟩ : ∃ q, q = pullZ x y z y := ⟨_, rfl⟩
    obtain ⟨r, er⟩ : ∃ r, r = pullZ x y z z := ⟨_, rfl⟩
    obtain ⟨p1, p2⟩ : -2251799813685248 ≤ p ∧ p ≤ 2251799813685248 := by rw [ep]; exact pullZ_bd x y z x fun h => ⟨(insB_true h).1, (insB_true h).2.1⟩
    obtain ⟨q1, q2⟩ : -2251799813685248 ≤ q ∧ q ≤ 2251799813685248 := by rw [eq]; exact pullZ_bd x y z y fun h => ⟨(insB_true h).2.2.1, (insB_true h).2.2.2.1⟩
    obtain ⟨r1, r2⟩ : -2251799813685248 ≤ r ∧ r ≤ 2251799813685248 := by rw [er]; exact pullZ_bd x y z z fun h => ⟨(insB_true h).2.2.2.2.1, (insB_true h).2.2.2.2.2⟩
    have HE := Lib.hid (show pullZ x y z x = p ∧ pullZ x y z y = q ∧ pullZ x y z z = r from ⟨ep.symm, eq.symm, er.symm⟩)
    have HN := Lib.hid (show pullZ (-x) (-y) (-z) (-x) = -p ∧ pullZ (-x) (-y) (-z) (-y) = -q ∧ pullZ (-x) (-y) (-z) (-z) = -r from ⟨by rw [pullZ_neg, ep], by rw [pullZ_neg, eq], by rw [pullZ_neg, er]⟩)
    have HO := Lib.hid (show ∀ w, Calls Try.prog 5 #[.agg #[.int .i64 x, .int .i64 y, .int .i64 z]] w fun e w' => e = .returned (.agg #[.int .i64 p, .int .i64 q, .int .i64 r]) ∧ Below w.heap.size w w' from fun w => by rw [ep, eq, er]; exact pullOf_walk x y z w)
    clear ep eq er
    have n1 : IntKind.i64.wrap (-p) = -p := IntWalk.i64_in _ (by omega)
    have n2 : IntKind.i64.wrap (-q) = -q := IntWalk.i64_in _ (by omega)
    have n3 : IntKind.i64.wrap (-r) = -r := IntWalk.i64_in _ (by omega)
    go_enter Try.func3, Try.ntmps3
    go_wp2_with (go_at_call 4; refine (pull_walk _ _ _ _).mono ?_; rintro e w1 ⟨rfl, hb1⟩; obtain ⟨hc1, hf1, hz1⟩ := Grow.facts hb1; have HB1 := Lib.hid hb1; clear hb1; (try simp only [World.size_alloc, World.size_setCell] at hc1 hf1 hz1); first | rw [HP.out.1, HP.out.2] | rw [HN.out.1, HN.out.2.1, HN.out.2.2] | rw [HE.out.1, HE.out.2.1, HE.out.2.2])
    refine Grow.wp_region_over (by kernel_rfl) (by kernel_rfl) ?_
    repeat (go_big_quiet_step ((go_at_call 5; exact Calls.over_of (HO.out _))))
    refine wpQuiet_nil ?_
    intro x9 hz9
    go_wp2
    go_ret
    refine ⟨rfl, ?_⟩
    repeat first
      | exact Grow.grow_refl _
      | refine Grow.grow_alloc ?_ _
      | refine Grow.grow_over ?_ _
      | refine Grow.grow_via (by assumption) ?_
      | refine Grow.grow_setCell ?_ (by simp; omega) _
  · go_enter Try.func3, Try.ntmps3
    go_wp2_with (go_at_call 4; refine (pull_walk _ _ _ _).mono ?_; rintro e w1 ⟨rfl, hb1⟩; obtain ⟨hc1, hf1, hz1⟩ := Grow.facts hb1; have HB1 := Lib.hid hb1; clear hb1; (try simp only [World.size_alloc] at hc1 hf1 hz1); rw [HP.out.1, HP.out.2])
    all_goals first | (exfalso; omega) | skip
    all_goals
      go_ret
      refine ⟨rfl, ?_⟩
      repeat first
        | exact Grow.grow_refl _
        | refine Grow.grow_alloc ?_ _
        | refine Grow.grow_over ?_ _
        | refine Grow.grow_via (by assumption) ?_
        | refine Grow.grow_setCell ?_ (by simp; omega) _
end Go.Proofs.Ytlfpfeidaohjmaa
