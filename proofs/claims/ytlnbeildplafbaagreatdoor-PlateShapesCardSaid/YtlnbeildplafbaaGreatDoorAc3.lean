/- Cells of directions: sizes, directions, strips. -/
import Derived.Test.YtlnbeildplafbaaGreatDoorAc1
import Derived.Test.YtlnbeildplafbaaGreatDoorCs5
import Derived.LoopTactic
import Derived.Deep.LoopGhost
import Derived.Outline
import Derived.BigQuiet
import Derived.Deep.DeepCutAuto
import Derived.Deep.CutBlock
set_option linter.unusedSimpArgs false
set_option linter.unusedVariables false
namespace Go.Proofs.YtlnbeildplafbaaGreatDoor
open Go.RowKit Go.Grow Go.Atl

def drV (d : Dr) : Value := .agg #[.int .i64 d.x, .int .i64 d.y, .int .i64 d.z]
def spV (s : Sp) : Value := .agg #[.int .i64 s.face, .int .i64 s.level, .int .i64 s.col, .int .i64 s.row]
theorem sz_neg {n : Int} (h : n < 0) : sz n = -n := by unfold sz; omega
theorem sz_pos {n : Int} (h : ¬ n < 0) : sz n = n := by unfold sz; omega
theorem sz_in (n : Int) : 0 ≤ sz n ∧ n ≤ sz n ∧ -n ≤ sz n := by unfold sz; omega
set_option maxRecDepth 100000 in
set_option maxHeartbeats 8000000 in
theorem size_walk (n : Int) (w : World) (hn : -4611686018427387904 ≤ n ∧ n ≤ 4611686018427387904) :
    Calls Tryz.prog 103 #[.int .i64 n] w fun e w' => e = .returned (.int .i64 (sz n)) ∧ w = w' := by
  by_cases h : n < 0
  · have u1 : decide (n < -n) = true := decide_eq_true (by omega)
    have u2 : decide (n < 0) = true := decide_eq_true h
    rw [sz_neg h]
    go_enter Tryz.func103, Tryz.ntmps103
    go_wp2
    go_ret
    exact ⟨rfl, rfl⟩
  · have u1 : ¬ (n < -n) := by omega
    have u2 : decide (n < 0) = false := decide_eq_false h
    rw [sz_pos h]
    go_enter Tryz.func103, Tryz.ntmps103
    go_wp2
    go_ret
    exact ⟨rfl, rfl⟩
set_option maxRecDepth 100000 in
set_option maxHeartbeats 8000000 in
theorem nsize_walk (n : Int) (w : World) (hn : -4611686018427387904 ≤ n ∧ n ≤ 4611686018427387904) :
    Calls Tryz.prog 84 #[.int .i64 n] w fun e w' => e = .returned (.int .i64 (sz n)) ∧ w = w' := by
  by_cases h : n < 0
  · have u1 : decide (n < -n) = true := decide_eq_true (by omega)
    have u2 : decide (n < 0) = true := decide_eq_true h
    rw [sz_neg h]
    go_enter Tryz.func84, Tryz.ntmps84
    go_wp2
    go_ret
    exact ⟨rfl, rfl⟩
  · have u1 : ¬ (n < -n) := by omega
    have u2 : decide (n < 0) = false := decide_eq_false h
    rw [sz_pos h]
    go_enter Tryz.func84, Tryz.ntmps84
    go_wp2
    go_ret
    exact ⟨rfl, rfl⟩
theorem isDir_no {d : Dr} (h : d.x > 1048576 ∨ d.x < -1048576 ∨ d.y > 1048576 ∨ d.y < -1048576 ∨ d.z > 1048576 ∨ d.z < -1048576 ∨ d.x = 0 ∧ d.y = 0 ∧ d.z = 0) : isDir d = false := by
  cases hd : isDir d with
  | false => rfl
  | true => have := isDir_spec hd; omega
theorem isDir_yes {d : Dr} (h : (-1048576 ≤ d.x ∧ d.x ≤ 1048576) ∧ (-1048576 ≤ d.y ∧ d.y ≤ 1048576) ∧ (-1048576 ≤ d.z ∧ d.z ≤ 1048576) ∧ (d.x ≠ 0 ∨ d.y ≠ 0 ∨ d.z ≠ 0)) : isDir d = true := by
  unfold isDir
  simp only [Bool.and_eq_true, Bool.or_eq_true, decide_eq_true_eq, Bool.not_eq_true', decide_eq_false_iff_not]
  omega
set_option maxRecDepth 100000 in
set_option maxHeartbeats 8000000 in
theorem isDirection_walk (d : Dr) (w : World) :
    Calls Tryz.prog 46 #[drV d] w fun e w' => e = .returned (.bool (isDir d)) ∧ Below w.heap.size w w' := by
  obtain ⟨x, y, z⟩ := d
  unfold drV
  simp only
  by_cases c0 : 1048576 < x
  · have u0 : decide (1048576 < x) = true := decide_eq_true c0
    have HZ := Lib.hid (show isDir ⟨x, y, z⟩ = false from isDir_no (by simp only; omega))
    go_enter Tryz.func46, Tryz.ntmps46
    go_wp2
    go_ret
    exact ⟨by rw [HZ.out]; rfl, (by (repeat (with_reducible first | exact grow_refl _ | refine Grow.grow_drewN ?_ _ | refine Grow.grow_drew ?_ | refine Grow.grow_alloc ?_ _)))⟩
  · have u0 : decide (1048576 < x) = false := decide_eq_false c0
    by_cases c1 : x < -1048576
    · have u1 : decide (x < -1048576) = true := decide_eq_true c1
      have HZ := Lib.hid (show isDir ⟨x, y, z⟩ = false from isDir_no (by simp only; omega))
      go_enter Tryz.func46, Tryz.ntmps46
      go_wp2
      go_ret
      exact ⟨by rw [HZ.out]; rfl, (by (repeat (with_reducible first | exact grow_refl _ | refine Grow.grow_drewN ?_ _ | refine Grow.grow_drew ?_ | refine Grow.grow_alloc ?_ _)))⟩
    · have u1 : decide (x < -1048576) = false := decide_eq_false c1
      by_cases c2 : 1048576 < y
      · have u2 : decide (1048576 < y) = true := decide_eq_true c2
        have HZ := Lib.hid (show isDir ⟨x, y, z⟩ = false from isDir_no (by simp only; omega))
        go_enter Tryz.func46, Tryz.ntmps46
        go_wp2
        go_ret
        exact ⟨by rw [HZ.out]; rfl, (by (repeat (with_reducible first | exact grow_refl _ | refine Grow.grow_drewN ?_ _ | refine Grow.grow_drew ?_ | refine Grow.grow_alloc ?_ _)))⟩
      · have u2 : decide (1048576 < y) = false := decide_eq_false c2
        by_cases c3 : y < -1048576
        · have u3 : decide (y < -1048576) = true := decide_eq_true c3
          have HZ := Lib.hid (show isDir ⟨x, y, z⟩ = false from isDir_no (by simp only; omega))
          go_enter Tryz.func46, Tryz.ntmps46
          go_wp2
          go_ret
          exact ⟨by rw [HZ.out]; rfl, (by (repeat (with_reducible first | exact grow_refl _ | refine Grow.grow_drewN ?_ _ | refine Grow.grow_drew ?_ | refine Grow.grow_alloc ?_ _)))⟩
        · have u3 : decide (y < -1048576) = false := decide_eq_false c3
          by_cases c4 : 1048576 < z
          · have u4 : decide (1048576 < z) = true := decide_eq_true c4
            have HZ := Lib.hid (show isDir ⟨x, y, z⟩ = false from isDir_no (by simp only; omega))
            go_enter Tryz.func46, Tryz.ntmps46
            go_wp2
            go_ret
            exact ⟨by rw [HZ.out]; rfl, (by (repeat (with_reducible first | exact grow_refl _ | refine Grow.grow_drewN ?_ _ | refine Grow.grow_drew ?_ | refine Grow.grow_alloc ?_ _)))⟩
          · have u4 : decide (1048576 < z) = false := decide_eq_false c4
            by_cases c5 : z < -1048576
            · have u5 : decide (z < -1048576) = true := decide_eq_true c5
              have HZ := Lib.hid (show isDir ⟨x, y, z⟩ = false from isDir_no (by simp only; omega))
              go_enter Tryz.func46, Tryz.ntmps46
              go_wp2
              go_ret
              exact ⟨by rw [HZ.out]; rfl, (by (repeat (with_reducible first | exact grow_refl _ | refine Grow.grow_drewN ?_ _ | refine Grow.grow_drew ?_ | refine Grow.grow_alloc ?_ _)))⟩
            · have u5 : decide (z < -1048576) = false := decide_eq_false c5
              by_cases e0 : x = 0
              rotate_left
              · have v0 : (x == 0) = false := by simpa using e0
                have v0n : (x != 0) = true := by simpa using e0
                have HZ := Lib.hid (show isDir ⟨x, y, z⟩ = true from isDir_yes (by simp only; omega))
                go_enter Tryz.func46, Tryz.ntmps46
                go_wp2
                go_ret
                exact ⟨by rw [HZ.out]; rfl, (by (repeat (with_reducible first | exact grow_refl _ | refine Grow.grow_drewN ?_ _ | refine Grow.grow_drew ?_ | refine Grow.grow_alloc ?_ _)))⟩
              · subst e0
                by_cases e1 : y = 0
                rotate_left
                · have v1 : (y == 0) = false := by simpa using e1
                  have v1n : (y != 0) = true := by simpa using e1
                  have HZ := Lib.hid (show isDir ⟨0, y, z⟩ = true from isDir_yes (by simp only; omega))
                  go_enter Tryz.func46, Tryz.ntmps46
                  go_wp2
                  go_ret
                  exact ⟨by rw [HZ.out]; rfl, (by (repeat (with_reducible first | exact grow_refl _ | refine Grow.grow_drewN ?_ _ | refine Grow.grow_drew ?_ | refine Grow.grow_alloc ?_ _)))⟩
                · subst e1
                  by_cases e2 : z = 0
                  rotate_left
                  · have v2 : (z == 0) = false := by simpa using e2
                    have v2n : (z != 0) = true := by simpa using e2
                    have HZ := Lib.hid (show isDir ⟨0, 0, z⟩ = true from isDir_yes (by simp only; omega))
                    go_enter Tryz.func46, Tryz.ntmps46
                    go_wp2
                    go_ret
                    exact ⟨by rw [HZ.out]; rfl, (by (repeat (with_reducible first | exact grow_refl _ | refine Grow.grow_drewN ?_ _ | refine Grow.grow_drew ?_ | refine Grow.grow_alloc ?_ _)))⟩
                  · subst e2
                    have HZ := Lib.hid (show isDir ⟨0, 0, 0⟩ = false by decide)
                    go_enter Tryz.func46, Tryz.ntmps46
                    go_wp2
                    go_ret
                    exact ⟨by rw [HZ.out]; rfl, (by (repeat (with_reducible first | exact grow_refl _ | refine Grow.grow_drewN ?_ _ | refine Grow.grow_drew ?_ | refine Grow.grow_alloc ?_ _)))⟩
theorem pow_le12 : ∀ i : Nat, i ≤ 12 → (2 : Int) ^ i ≤ 4096 := by decide +kernel
theorem pow_ge1 : ∀ i : Nat, i ≤ 12 → (1 : Int) ≤ (2 : Int) ^ i := by decide +kernel
theorem mul_in {a b A B : Int} (h1 : 0 ≤ a) (h2 : a ≤ A) (h3 : 0 ≤ b) (h4 : b ≤ B) : 0 ≤ a * b ∧ a * b ≤ A * B :=
  ⟨Int.mul_nonneg h1 h3, Int.mul_le_mul h2 h4 h3 (Int.le_trans h1 h2)⟩
theorem mul_abs {a b A B : Int} (h1 : -A ≤ a) (h2 : a ≤ A) (h3 : 0 ≤ b) (h4 : b ≤ B) (hA : 0 ≤ A) : -(A * B) ≤ a * b ∧ a * b ≤ A * B := by
  have e1 : a * b ≤ A * b := Int.mul_le_mul_of_nonneg_right h2 h3
  have e2 : -A * b ≤ a * b := Int.mul_le_mul_of_nonneg_right h1 h3
  have e3 : A * b ≤ A * B := Int.mul_le_mul_of_nonneg_left h4 hA
  have e4 : -A * b = -(A * b) := Int.neg_mul ..
  omega
def StripRel (u m : Int) (lev : Nat) (v7 v8 v9 v10 v11 : Value) : Prop :=
  ∃ (i : Nat) (c p cm pm : Int), i ≤ lev ∧ v7 = .int .i64 c ∧ v8 = .int .i64 (2 * cm - pm) ∧ v9 = .int .i64 (2 * cm + 2 * m - pm) ∧ v10 = .int .i64 p ∧ v11 = .int .i64 i ∧ Hid (c = stripUp u m i ∧ p = 2 ^ i ∧ cm = c * m ∧ pm = p * m)
end Go.Proofs.YtlnbeildplafbaaGreatDoor
/- Cells of directions: the program's directions and faces. -/
set_option linter.unusedSimpArgs false
set_option linter.unusedVariables false
namespace Go.Proofs.YtlnbeildplafbaaGreatDoor
open Go.RowKit Go.Grow Go.Atl

theorem isDir_iff (d : Dr) : isDir d = true ↔ (-1048576 ≤ d.x ∧ d.x ≤ 1048576) ∧ (-1048576 ≤ d.y ∧ d.y ≤ 1048576) ∧ (-1048576 ≤ d.z ∧ d.z ≤ 1048576) ∧ (d.x ≠ 0 ∨ d.y ≠ 0 ∨ d.z ≠ 0) :=
  ⟨fun h => by have := isDir_spec h; omega, isDir_yes⟩
set_option maxRecDepth 100000 in
set_option maxHeartbeats 8000000 in
theorem direction_walk (d : Dr) (w : World) :
    Calls Tryz.prog 73 #[drV d] w fun e w' => e = .returned (.bool (isDir d)) ∧ Below w.heap.size w w' := by
  obtain ⟨x, y, z⟩ := d
  unfold drV
  simp only
  go_enter Tryz.func73, Tryz.ntmps73
  go_wp2
  all_goals
    go_ret
    refine ⟨congrArg (fun b => Ending.returned (.bool b)) ?_, grow_alloc (grow_refl _) _⟩
    rw [Bool.eq_iff_iff, isDir_iff]
    simp only [decide_eq_true_eq, true_iff, false_iff, Bool.false_eq_true]
    omega
set_option maxRecDepth 100000 in
set_option maxHeartbeats 8000000 in
theorem place_walk (u m n : Int) (bm bn : Nat) (w : World) (hm : 0 < m ∧ m ≤ 1048576) (hu : -m ≤ u ∧ u ≤ m) (hn : 1 ≤ n ∧ n ≤ 4096) (c1 : w.cell? ⟨bm, 0, none⟩ = some (.int .i64 m)) (c2 : w.cell? ⟨bn, 0, none⟩ = some (.int .i64 n)) :
    Calls Tryz.prog 75 #[.int .i64 u, .pointer (some ⟨bm, 0, none⟩), .pointer (some ⟨bn, 0, none⟩)] w fun e w' => e = .returned (.int .i64 (place u m n)) ∧ Below w.heap.size w w' := by
  have hb1 := lt_of_cell c1
  have hb2 := lt_of_cell c2
  simp only at hb1 hb2
  have hmul := mul_in (A := 2097152) (B := 4096) (a := u + m) (b := n) (by omega) (by omega) (by omega) hn.2
  have h2m : ¬ (2 * m = 0) := by omega
  have hq : ((u + m) * n).tdiv (2 * m) = (u + m) * n / (2 * m) := Int.tdiv_eq_ediv_of_nonneg hmul.1
  have HP := Lib.hid (show place u m n = min ((u + m) * n / (2 * m)) (n - 1) from rfl)
  have hqi : 0 ≤ (u + m) * n / (2 * m) := Int.ediv_nonneg hmul.1 (by omega)
  have hqj : (u + m) * n / (2 * m) ≤ (u + m) * n := Int.ediv_le_self _ hmul.1
  generalize (u + m) * n / (2 * m) = q at hq HP hqi hqj
  go_enter Tryz.func75, Tryz.ntmps75
  go_wp2
  go_quiet (fail)
  go_wp2
  all_goals
    go_ret
    refine ⟨?_, by (repeat (with_reducible first | exact grow_refl _ | refine Grow.grow_drewN ?_ _ | refine Grow.grow_drew ?_ | refine Grow.grow_alloc ?_ _))⟩
    rw [HP.out]
    refine congrArg (fun b => Ending.returned (.int .i64 b)) ?_
    first
      | omega
      | (split <;> omega)
end Go.Proofs.YtlnbeildplafbaaGreatDoor
