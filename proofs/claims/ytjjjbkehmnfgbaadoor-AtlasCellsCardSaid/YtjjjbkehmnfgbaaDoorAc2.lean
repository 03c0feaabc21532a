/- Cells of directions: sizes, directions, strips. -/
import Derived.Test.YtjjjbkehmnfgbaaDoorAc1
import Derived.Test.YtjjjbkehmnfgbaaDoorCs5
import Derived.LoopTactic
import Derived.Deep.LoopGhost
import Derived.Outline
import Derived.BigQuiet
import Derived.Deep.DeepCutAuto
import Derived.Deep.CutBlock
set_option linter.unusedSimpArgs false
set_option linter.unusedVariables false
namespace Go.Proofs.YtjjjbkehmnfgbaaDoor
open Go.RowKit Go.Grow Go.Atl

def drV (d : Dr) : Value := .agg #[.int .i64 d.x, .int .i64 d.y, .int .i64 d.z]
def spV (s : Sp) : Value := .agg #[.int .i64 s.face, .int .i64 s.level, .int .i64 s.col, .int .i64 s.row]
theorem sz_neg {n : Int} (h : n < 0) : sz n = -n := by unfold sz; omega
theorem sz_pos {n : Int} (h : ¬ n < 0) : sz n = n := by unfold sz; omega
theorem sz_in (n : Int) : 0 ≤ sz n ∧ n ≤ sz n ∧ -n ≤ sz n := by unfold sz; omega
set_option maxRecDepth 100000 in
set_option maxHeartbeats 8000000 in
theorem size_walk (n : Int) (w : World) (hn : -4611686018427387904 ≤ n ∧ n ≤ 4611686018427387904) :
    Calls Tryd.prog 76 #[.int .i64 n] w fun e w' => e = .returned (.int .i64 (sz n)) ∧ w = w' := by
  by_cases h : n < 0
  · have u1 : decide (n < -n) = true := decide_eq_true (by omega)
    have u2 : decide (n < 0) = true := decide_eq_true h
    rw [sz_neg h]
    go_enter Tryd.func76, Tryd.ntmps76
    go_wp2
    go_ret
    exact ⟨rfl, rfl⟩
  · have u1 : ¬ (n < -n) := by omega
    have u2 : decide (n < 0) = false := decide_eq_false h
    rw [sz_pos h]
    go_enter Tryd.func76, Tryd.ntmps76
    go_wp2
    go_ret
    exact ⟨rfl, rfl⟩
set_option maxRecDepth 100000 in
set_option maxHeartbeats 8000000 in
theorem nsize_walk (n : Int) (w : World) (hn : -4611686018427387904 ≤ n ∧ n ≤ 4611686018427387904) :
    Calls Tryd.prog 56 #[.int .i64 n] w fun e w' => e = .returned (.int .i64 (sz n)) ∧ w = w' := by
  by_cases h : n < 0
  · have u1 : decide (n < -n) = true := decide_eq_true (by omega)
    have u2 : decide (n < 0) = true := decide_eq_true h
    rw [sz_neg h]
    go_enter Tryd.func56, Tryd.ntmps56
    go_wp2
    go_ret
    exact ⟨rfl, rfl⟩
  · have u1 : ¬ (n < -n) := by omega
    have u2 : decide (n < 0) = false := decide_eq_false h
    rw [sz_pos h]
    go_enter Tryd.func56, Tryd.ntmps56
    go_wp2
    go_ret
    exact ⟨rfl, rfl⟩
theorem isDir_no {d : Dr} (h : d.x > 1048576 ∨ d.x < -1048576 ∨ d.y > 1048576 ∨ d.y < -1048576 ∨ d.z > 1048576 ∨ d.z < -1048576 ∨ d.x = 0 ∧ d.y = 0 ∧ d.z = 0) : isDir d = false := by
  cases hd : isDir d with
  | false => rfl
  | true => have := isDir_spec hd; omega
theorem isDir_yes {d : Dr} (h : (-1048576 ≤ d.x ∧ d.x ≤ 1048576) ∧ (-1048576 ≤ d.y ∧ d.y ≤ 1048576) ∧ (-1048576 ≤ d.z ∧ d.z ≤ 1048576) ∧ (d.x ≠ 0 ∨ d.y ≠ 0 ∨ d.z ≠ 0)) : isDir d = true := by
  unfold isDir
  simp only [Bool.and_eq_true, Bool.or_eq_true, decide_eq_true_eq, Bool.not_eq_true', decide_eq_false_iff_not]
  omega
set_option maxRecDepth 100000 in
set_option maxHeartbeats 8000000 in
theorem isDirection_walk (d : Dr) (w : World) :
    Calls Tryd.prog 55 #[drV d] w fun e w' => e = .returned (.bool (isDir d)) ∧ Below w.heap.size w w' := by
  obtain ⟨x, y, z⟩ := d
  unfold drV
  simp only
  by_cases c0 : 1048576 < x
  · have u0 : decide (1048576 < x) = true := decide_eq_true c0
    have HZ := Lib.hid (show isDir ⟨x, y, z⟩ = false from isDir_no (by simp only; omega))
    go_enter Tryd.func55, Tryd.ntmps55
    go_wp2
    go_ret
    exact ⟨by rw [HZ.out]; rfl, (by (repeat (with_reducible first | exact grow_refl _ | refine Grow.grow_drewN ?_ _ | refine Grow.grow_drew ?_ | refine Grow.grow_alloc ?_ _)))⟩
  · have u0 : decide (1048576 < x) = false := decide_eq_false c0
    by_cases c1 : x < -1048576
    · have u1 : decide (x < -1048576) = true := decide_eq_true c1
      have HZ := Lib.hid (show isDir ⟨x, y, z⟩ = false from isDir_no (by simp only; omega))
      go_enter Tryd.func55, Tryd.ntmps55
      go_wp2
      go_ret
      exact ⟨by rw [HZ.out]; rfl, (by (repeat (with_reducible first | exact grow_refl _ | refine Grow.grow_drewN ?_ _ | refine Grow.grow_drew ?_ | refine Grow.grow_alloc ?_ _)))⟩
    · have u1 : decide (x < -1048576) = false := decide_eq_false c1
      by_cases c2 : 1048576 < y
      · have u2 : decide (1048576 < y) = true := decide_eq_true c2
        have HZ := Lib.hid (show isDir ⟨x, y, z⟩ = false from isDir_no (by simp only; omega))
        go_enter Tryd.func55, Tryd.ntmps55
        go_wp2
        go_ret
        exact ⟨by rw [HZ.out]; rfl, (by (repeat (with_reducible first | exact grow_refl _ | refine Grow.grow_drewN ?_ _ | refine Grow.grow_drew ?_ | refine Grow.grow_alloc ?_ _)))⟩
      · have u2 : decide (1048576 < y) = false := decide_eq_false c2
        by_cases c3 : y < -1048576
        · have u3 : decide (y < -1048576) = true := decide_eq_true c3
          have HZ := Lib.hid (show isDir ⟨x, y, z⟩ = false from isDir_no (by simp only; omega))
          go_enter Tryd.func55, Tryd.ntmps55
          go_wp2
          go_ret
          exact ⟨by rw [HZ.out]; rfl, (by (repeat (with_reducible first | exact grow_refl _ | refine Grow.grow_drewN ?_ _ | refine Grow.grow_drew ?_ | refine Grow.grow_alloc ?_ _)))⟩
        · have u3 : decide (y < -1048576) = false := decide_eq_false c3
          by_cases c4 : 1048576 < z
          · have u4 : decide (1048576 < z) = true := decide_eq_true c4
            have HZ := Lib.hid (show isDir ⟨x, y, z⟩ = false from isDir_no (by simp only; omega))
            go_enter Tryd.func55, Tryd.ntmps55
            go_wp2
            go_ret
            exact ⟨by rw [HZ.out]; rfl, (by (repeat (with_reducible first | exact grow_refl _ | refine Grow.grow_drewN ?_ _ | refine Grow.grow_drew ?_ | refine Grow.grow_alloc ?_ _)))⟩
          · have u4 : decide (1048576 < z) = false := decide_eq_false c4
            by_cases c5 : z < -1048576
            · have u5 : decide (z < -1048576) = true := decide_eq_true c5
              have HZ := Lib.hid (show isDir ⟨x, y, z⟩ = false from isDir_no (by simp only; omega))
              go_enter Tryd.func55, Tryd.ntmps55
              go_wp2
              go_ret
              exact ⟨by rw [HZ.out]; rfl, (by (repeat (with_reducible first | exact grow_refl _ | refine Grow.grow_drewN ?_ _ | refine Grow.grow_drew ?_ | refine Grow.grow_alloc ?_ _)))⟩
            · have u5 : decide (z < -1048576) = false := decide_eq_false c5
              by_cases e0 : x = 0
              rotate_left
              · have v0 : (x == 0) = false := by simpa using e0
                have v0n : (x != 0) = true := by simpa using e0
                have HZ := Lib.hid (show isDir ⟨x, y, z⟩ = true from isDir_yes (by simp only; omega))
                go_enter Tryd.func55, Tryd.ntmps55
                go_wp2
                go_ret
                exact ⟨by rw [HZ.out]; rfl, (by (repeat (with_reducible first | exact grow_refl _ | refine Grow.grow_drewN ?_ _ | refine Grow.grow_drew ?_ | refine Grow.grow_alloc ?_ _)))⟩
              · subst e0
                by_cases e1 : y = 0
                rotate_left
                · have v1 : (y == 0) = false := by simpa using e1
                  have v1n : (y != 0) = true := by simpa using e1
                  have HZ := Lib.hid (show isDir ⟨0, y, z⟩ = true from isDir_yes (by simp only; omega))
                  go_enter Tryd.func55, Tryd.ntmps55
                  go_wp2
                  go_ret
                  exact ⟨by rw [HZ.out]; rfl, (by (repeat (with_reducible first | exact grow_refl _ | refine Grow.grow_drewN ?_ _ | refine Grow.grow_drew ?_ | refine Grow.grow_alloc ?_ _)))⟩
                · subst e1
                  by_cases e2 : z = 0
                  rotate_left
                  · have v2 : (z == 0) = false := by simpa using e2
                    have v2n : (z != 0) = true := by simpa using e2
                    have HZ := Lib.hid (show isDir ⟨0, 0, z⟩ = true from isDir_yes (by simp only; omega))
                    go_enter Tryd.func55, Tryd.ntmps55
                    go_wp2
                    go_ret
                    exact ⟨by rw [HZ.out]; rfl, (by (repeat (with_reducible first | exact grow_refl _ | refine Grow.grow_drewN ?_ _ | refine Grow.grow_drew ?_ | refine Grow.grow_alloc ?_ _)))⟩
                  · subst e2
                    have HZ := Lib.hid (show isDir ⟨0, 0, 0⟩ = false by decide)
                    go_enter Tryd.func55, Tryd.ntmps55
                    go_wp2
                    go_ret
                    exact ⟨by rw [HZ.out]; rfl, (by (repeat (with_reducible first | exact grow_refl _ | refine Grow.grow_drewN ?_ _ | refine Grow.grow_drew ?_ | refine Grow.grow_alloc ?_ _)))⟩
theorem pow_le12 : ∀ i : Nat, i ≤ 12 → (2 : Int) ^ i ≤ 4096 := by decide +kernel
theorem pow_ge1 : ∀ i : Nat, i ≤ 12 → (1 : Int) ≤ (2 : Int) ^ i := by decide +kernel
theorem mul_in {a b A B : Int} (h1 : 0 ≤ a) (h2 : a ≤ A) (h3 : 0 ≤ b) (h4 : b ≤ B) : 0 ≤ a * b ∧ a * b ≤ A * B :=
  ⟨Int.mul_nonneg h1 h3, Int.mul_le_mul h2 h4 h3 (Int.le_trans h1 h2)⟩
theorem mul_abs {a b A B : Int} (h1 : -A ≤ a) (h2 : a ≤ A) (h3 : 0 ≤ b) (h4 : b ≤ B) (hA : 0 ≤ A) : -(A * B) ≤ a * b ∧ a * b ≤ A * B := by
  have e1 : a * b ≤ A * b := Int.mul_le_mul_of_nonneg_right h2 h3
  have e2 : -A * b ≤ a * b := Int.mul_le_mul_of_nonneg_right h1 h3
  have e3 : A * b ≤ A * B := Int.mul_le_mul_of_nonneg_left h4 hA
  have e4 : -A * b = -(A * b) := Int.neg_mul ..
  omega
def StripRel (u m : Int) (lev : Nat) (v7 v8 v9 v10 v11 : Value) : Prop :=
  ∃ (i : Nat) (c p cm pm : Int), i ≤ lev ∧ v7 = .int .i64 c ∧ v8 = .int .i64 (2 * cm - pm) ∧ v9 = .int .i64 (2 * cm + 2 * m - pm) ∧ v10 = .int .i64 p ∧ v11 = .int .i64 i ∧ Hid (c = stripUp u m i ∧ p = 2 ^ i ∧ cm = c * m ∧ pm = p * m)
set_option maxRecDepth 100000 in
set_option maxHeartbeats 8000000 in
theorem strip_walk (u m : Int) (lev : Nat) (w : World) (hm : 0 < m ∧ m ≤ 1048576) (hu : -m ≤ u ∧ u ≤ m) (hl : lev ≤ 12) :
    Calls Tryd.prog 57 #[.int .i64 u, .int .i64 m, .int .i64 lev] w fun e w' => e = .returned (.int .i64 (stripUp u m lev)) ∧ w = w' := by
  go_enter Tryd.func57, Tryd.ntmps57
  go_wp2
  go_loopw [7, 8, 9, 10, 11] (fun v7 v8 v9 v10 v11 wr => StripRel u m lev v7 v8 v9 v10 v11 ∧ w = wr) (fun _ _ _ _ i _ => lev - (intOf i).toNat)
  case atStart => exact ⟨⟨0, 0, 1, 0, m, Nat.zero_le _, rfl, by congr 1; omega, by congr 1; omega, rfl, rfl, Lib.hid ⟨rfl, rfl, by simp, by simp⟩⟩, rfl⟩
  case round =>
    obtain ⟨⟨i, c, p, cm, pm, hi, rfl, rfl, rfl, rfl, rfl, HH⟩, rfl⟩ := hrel
    obtain ⟨hc, hp, hcm, hpm⟩ := HH.out
    have hp1 := pow_ge1 i (by omega)
    have hp2 := pow_le12 i (by omega)
    obtain ⟨a1, a2, _, _⟩ := strip_spec u m hm.1 hu.1 hu.2 i
    rw [← hc, ← hp] at a2
    rw [← hc] at a1
    rw [← hp] at hp1 hp2
    have hcm2 := mul_in (A := 4096) (B := 1048576) a1 (by omega) (by omega : (0 : Int) ≤ m) hm.2
    have hpm2 := mul_in (A := 4096) (B := 1048576) (by omega : (0 : Int) ≤ p) hp2 (by omega : (0 : Int) ≤ m) hm.2
    have hup := mul_abs (A := 1048576) (B := 4096) (a := u) (b := p) (by omega) (by omega) (by omega) hp2 (by omega)
    rw [← hcm] at hcm2
    rw [← hpm] at hpm2
    by_cases hlt : i < lev
    · have HS := Lib.hid (show stripUp u m (i + 1) = 2 * c + if 4 * cm + 2 * m - 2 * pm ≤ 2 * (u * p) then 1 else 0 by
        have e1 : (2 : Int) ^ (i + 1) = 2 * p := by rw [Int.pow_succ, ← hp, Int.mul_comm]
        rw [stripUp, ← hc, e1]
        have e2 : (2 * (2 * c + 1) - 2 * p) * m = 4 * cm + 2 * m - 2 * pm := by rw [hcm, hpm]; grind
        have e3 : u * (2 * p) = 2 * (u * p) := by grind
        rw [e2, e3])
      have HP := Lib.hid (show (2 : Int) ^ (i + 1) = p * 2 by rw [Int.pow_succ, ← hp])
      have HC1 := Lib.hid (show (2 * c + 1) * m = 2 * cm + m by rw [hcm]; grind)
      have HC0 := Lib.hid (show (2 * c) * m = 2 * cm by rw [hcm]; grind)
      have HPM := Lib.hid (show p * 2 * m = 2 * pm by rw [hpm]; grind)
      have hmid : ((2 * cm - pm) * 2 + (2 * cm + 2 * m - pm) * 2).tdiv 2 = 4 * cm + 2 * m - 2 * pm := by
        rw [show (2 * cm - pm) * 2 + (2 * cm + 2 * m - pm) * 2 = (4 * cm + 2 * m - 2 * pm) * 2 by omega, Int.mul_tdiv_cancel _ (by decide)]
      have hup3 : u * (p * 2) = 2 * (u * p) := by grind
      generalize u * p = up at hup HS hup3
      clear hc hp hcm hpm HH
      by_cases tc : 4 * cm + 2 * m - 2 * pm ≤ 2 * up
      · have tu : decide (4 * cm + 2 * m - 2 * pm ≤ 2 * up) = true := decide_eq_true tc
        have HS2 := Lib.hid (show stripUp u m (i + 1) = 2 * c + 1 by rw [HS.out, if_pos tc])
        clear HS
        go_wp2
        go_roundw
        case rel => exact ⟨⟨i + 1, 2 * c + 1, p * 2, 2 * cm + m, 2 * pm, by omega, by congr 1; omega, by congr 1; omega, by congr 1; omega, rfl, by go_num, Lib.hid ⟨HS2.out.symm, HP.out.symm, HC1.out.symm, HPM.out.symm⟩⟩, trivial⟩
        case measure => simp [intOf]; omega
      · have tu : decide (4 * cm + 2 * m - 2 * pm ≤ 2 * up) = false := decide_eq_false tc
        have HS2 := Lib.hid (show stripUp u m (i + 1) = 2 * c by rw [HS.out, if_neg tc]; omega)
        clear HS
        go_wp2
        go_roundw
        case rel => exact ⟨⟨i + 1, 2 * c, p * 2, 2 * cm, 2 * pm, by omega, by congr 1; omega, by congr 1; omega, by congr 1; omega, rfl, by go_num, Lib.hid ⟨HS2.out.symm, HP.out.symm, HC0.out.symm, HPM.out.symm⟩⟩, trivial⟩
        case measure => simp [intOf]; omega
    · obtain rfl : i = lev := by omega
      have HC := Lib.hid hc
      clear hc hp hcm hpm HH
      go_wp2
      go_ret
      exact ⟨by rw [← HC.out]; rfl, rfl⟩
end Go.Proofs.YtjjjbkehmnfgbaaDoor
