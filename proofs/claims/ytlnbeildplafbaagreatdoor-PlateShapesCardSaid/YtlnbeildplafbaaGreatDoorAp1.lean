/- Pairs of stars: products of directions. -/
import Derived.Test.YtlnbeildplafbaaGreatDoorBi8
import Derived.Test.YtlnbeildplafbaaGreatDoorBi9
import Derived.Test.YtlnbeildplafbaaGreatDoorAc3
set_option linter.unusedSimpArgs false
set_option linter.unusedVariables false
namespace Go.Atl
def dotZ (d e : Dr) : Int := d.x * e.x + d.y * e.y + d.z * e.z
def Sm (d : Dr) : Prop := (-1048576 ≤ d.x ∧ d.x ≤ 1048576) ∧ (-1048576 ≤ d.y ∧ d.y ≤ 1048576) ∧ (-1048576 ≤ d.z ∧ d.z ≤ 1048576)
theorem mul_small {x y : Int} (hx : -1048576 ≤ x ∧ x ≤ 1048576) (hy : -1048576 ≤ y ∧ y ≤ 1048576) : -1099511627776 ≤ x * y ∧ x * y ≤ 1099511627776 := by
  have h : (x * y).natAbs ≤ 1048576 * 1048576 := by rw [Int.natAbs_mul]; exact Nat.mul_le_mul (by omega) (by omega)
  omega
theorem dot_small {d e : Dr} (hd : Sm d) (he : Sm e) : -3298534883328 ≤ dotZ d e ∧ dotZ d e ≤ 3298534883328 := by
  have h1 := mul_small hd.1 he.1
  have h2 := mul_small hd.2.1 he.2.1
  have h3 := mul_small hd.2.2 he.2.2
  unfold dotZ
  omega
theorem dir_sm {d : Dr} (h : isDir d = true) : Sm d := by
  obtain ⟨h1, h2, h3, _⟩ := isDir_spec h
  exact ⟨h1, h2, h3⟩
end Go.Atl
namespace Go.Proofs.YtlnbeildplafbaaGreatDoor
open Go.RowKit Go.Grow Go.Wd Go.Atl

theorem wrap64_mid {n : Int} (h : -9223372036854775808 ≤ n ∧ n ≤ 9223372036854775807) : wrap64 n = n := by simp only [wrap64]; omega
set_option maxRecDepth 100000 in
set_option maxHeartbeats 16000000 in
theorem adot_walk (d e : Dr) (hd : Sm d) (he : Sm e) (w : World) :
    Calls Tryz.prog 78 #[drV d, drV e] w fun e' w' => e' = .returned (.int .i64 (dotZ d e)) ∧ Below w.heap.size w w' := by
  have b1 := mul_small hd.1 he.1
  have b2 := mul_small hd.2.1 he.2.1
  have b3 := mul_small hd.2.2 he.2.2
  have m1 : wrap64 (d.x * e.x) = d.x * e.x := wrap64_mid (by omega)
  have m2 : wrap64 (d.y * e.y) = d.y * e.y := wrap64_mid (by omega)
  have m3 : wrap64 (d.z * e.z) = d.z * e.z := wrap64_mid (by omega)
  have s1 : wrap64 (d.x * e.x + d.y * e.y) = d.x * e.x + d.y * e.y := wrap64_mid (by omega)
  have s2 : wrap64 (d.x * e.x + d.y * e.y + d.z * e.z) = d.x * e.x + d.y * e.y + d.z * e.z := wrap64_mid (by omega)
  clear b1 b2 b3
  unfold drV
  go_enter Tryz.func78, Tryz.ntmps78
  go_wp2
  go_ret
  refine ⟨?_, (by (repeat (with_reducible first | exact grow_refl _ | refine Grow.grow_drewN ?_ _ | refine Grow.grow_drew ?_ | refine Grow.grow_alloc ?_ _)))⟩
  unfold dotZ
  first
    | rfl
    | (show Ending.returned (.int .i64 (wrap64 (d.x * e.x + d.y * e.y + d.z * e.z))) = _
       rw [s2])
set_option maxRecDepth 100000 in
set_option maxHeartbeats 16000000 in
theorem rdot_walk (d e : Dr) (hd : Sm d) (he : Sm e) (w : World) :
    Calls Tryz.prog 48 #[drV d, drV e] w fun e' w' => e' = .returned (.int .i64 (dotZ d e)) ∧ Below w.heap.size w w' := by
  have b1 := mul_small hd.1 he.1
  have b2 := mul_small hd.2.1 he.2.1
  have b3 := mul_small hd.2.2 he.2.2
  have m1 : wrap64 (d.x * e.x) = d.x * e.x := wrap64_mid (by omega)
  have m2 : wrap64 (d.y * e.y) = d.y * e.y := wrap64_mid (by omega)
  have m3 : wrap64 (d.z * e.z) = d.z * e.z := wrap64_mid (by omega)
  have s1 : wrap64 (d.x * e.x + d.y * e.y) = d.x * e.x + d.y * e.y := wrap64_mid (by omega)
  have s2 : wrap64 (d.x * e.x + d.y * e.y + d.z * e.z) = d.x * e.x + d.y * e.y + d.z * e.z := wrap64_mid (by omega)
  clear b1 b2 b3
  unfold drV
  go_enter Tryz.func48, Tryz.ntmps48
  go_wp2
  go_ret
  refine ⟨?_, (by (repeat (with_reducible first | exact grow_refl _ | refine Grow.grow_drewN ?_ _ | refine Grow.grow_drew ?_ | refine Grow.grow_alloc ?_ _)))⟩
  unfold dotZ
  first
    | rfl
    | (show Ending.returned (.int .i64 (wrap64 (d.x * e.x + d.y * e.y + d.z * e.z))) = _
       rw [s2])
set_option maxRecDepth 100000 in
set_option maxHeartbeats 16000000 in
theorem asz_walk (n : Int) (h : -9223372036854775807 ≤ n ∧ n ≤ 9223372036854775807) (w : World) :
    Calls Tryz.prog 103 #[.int .i64 n] w fun e' w' => e' = .returned (.int .i64 (n.natAbs : Nat)) ∧ w' = w := by
  by_cases h0 : n < 0
  · have u1 : ((n.natAbs : Nat) : Int) = -n := by omega
    rw [u1]
    have d1 : decide (n < -n) = true := decide_eq_true (by omega)
    have d2 : decide (-n < n) = false := decide_eq_false (by omega)
    have d3 : decide (n ≤ -n) = true := decide_eq_true (by omega)
    have d4 : decide (-n ≤ n) = false := decide_eq_false (by omega)
    go_enter Tryz.func103, Tryz.ntmps103
    go_wp2
    go_ret
    exact ⟨by first | rfl | (simp; omega), rfl⟩
  · have u1 : ((n.natAbs : Nat) : Int) = n := by omega
    rw [u1]
    have d1 : decide (n < -n) = false := decide_eq_false (by omega)
    have d3 : decide (-n ≤ n) = true := decide_eq_true (by omega)
    go_enter Tryz.func103, Tryz.ntmps103
    go_wp2
    go_ret
    exact ⟨by first | rfl | (simp; omega), rfl⟩
set_option maxRecDepth 100000 in
set_option maxHeartbeats 16000000 in
theorem rsz_walk (n : Int) (h : -9223372036854775807 ≤ n ∧ n ≤ 9223372036854775807) (w : World) :
    Calls Tryz.prog 84 #[.int .i64 n] w fun e' w' => e' = .returned (.int .i64 (n.natAbs : Nat)) ∧ w' = w := by
  by_cases h0 : n < 0
  · have u1 : ((n.natAbs : Nat) : Int) = -n := by omega
    rw [u1]
    have d1 : decide (n < -n) = true := decide_eq_true (by omega)
    have d2 : decide (-n < n) = false := decide_eq_false (by omega)
    have d3 : decide (n ≤ -n) = true := decide_eq_true (by omega)
    have d4 : decide (-n ≤ n) = false := decide_eq_false (by omega)
    go_enter Tryz.func84, Tryz.ntmps84
    go_wp2
    go_ret
    exact ⟨by first | rfl | (simp; omega), rfl⟩
  · have u1 : ((n.natAbs : Nat) : Int) = n := by omega
    rw [u1]
    have d1 : decide (n < -n) = false := decide_eq_false (by omega)
    have d3 : decide (-n ≤ n) = true := decide_eq_true (by omega)
    go_enter Tryz.func84, Tryz.ntmps84
    go_wp2
    go_ret
    exact ⟨by first | rfl | (simp; omega), rfl⟩
end Go.Proofs.YtlnbeildplafbaaGreatDoor
