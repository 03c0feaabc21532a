/- Shapes of three points: points, squares of lengths, areas. -/
import Derived.Test.YtlnbeildplafbaaGreatDoorAp1
import Derived.Test.YtlnbeildplafbaaGreatDoorRdc
import Derived.RegionTactic
import Derived.BigQuiet
import Derived.Deep.DeepCutAuto
import Derived.Deep.CutBlock
import Derived.Outline
set_option linter.unusedSimpArgs false
set_option linter.unusedVariables false
namespace Go.Pl
open Go.Atl

def goodP (d : Dr) : Bool := decide (0 ≤ d.x) && decide (d.x ≤ 262144) && decide (0 ≤ d.y) && decide (d.y ≤ 262144) && decide (d.z = 0)
theorem goodP_iff {d : Dr} : goodP d = true ↔ (0 ≤ d.x ∧ d.x ≤ 262144) ∧ (0 ≤ d.y ∧ d.y ≤ 262144) ∧ d.z = 0 := by
  unfold goodP
  simp only [Bool.and_eq_true, decide_eq_true_eq]
  constructor
  · rintro ⟨⟨⟨⟨h1, h2⟩, h3⟩, h4⟩, h5⟩; exact ⟨⟨h1, h2⟩, ⟨h3, h4⟩, h5⟩
  · rintro ⟨⟨h1, h2⟩, ⟨h3, h4⟩, h5⟩; exact ⟨⟨⟨⟨h1, h2⟩, h3⟩, h4⟩, h5⟩
def sqZ (a b : Dr) : Int := (a.x - b.x) * (a.x - b.x) + (a.y - b.y) * (a.y - b.y)
def arZ (a b c : Dr) : Int := (b.x - a.x) * (c.y - a.y) - (b.y - a.y) * (c.x - a.x)
theorem tw_ar (a b c : Dr) : a.x * (b.y - c.y) + b.x * (c.y - a.y) + c.x * (a.y - b.y) = arZ a b c := by unfold arZ; grind
theorem sq_sym (a b : Dr) : sqZ a b = sqZ b a := by unfold sqZ; grind
theorem mul_18 {x y : Int} (hx : -262144 ≤ x ∧ x ≤ 262144) (hy : -262144 ≤ y ∧ y ≤ 262144) : -68719476736 ≤ x * y ∧ x * y ≤ 68719476736 := by
  have h : (x * y).natAbs ≤ 262144 * 262144 := by rw [Int.natAbs_mul]; exact Nat.mul_le_mul (by omega) (by omega)
  omega
theorem sq_pos (x : Int) : 0 ≤ x * x := by
  rcases Int.le_total 0 x with h | h
  · exact Int.mul_nonneg h h
  · exact Int.mul_nonneg_of_nonpos_of_nonpos h h
theorem sq_small {a b : Dr} (ha : goodP a = true) (hb : goodP b = true) : 0 ≤ sqZ a b ∧ sqZ a b ≤ 137438953472 := by
  obtain ⟨a1, a2, a3⟩ := goodP_iff.1 ha
  obtain ⟨b1, b2, b3⟩ := goodP_iff.1 hb
  have h1 := mul_18 (x := a.x - b.x) (y := a.x - b.x) (by omega) (by omega)
  have h2 := mul_18 (x := a.y - b.y) (y := a.y - b.y) (by omega) (by omega)
  have h3 := sq_pos (a.x - b.x)
  have h4 := sq_pos (a.y - b.y)
  unfold sqZ
  omega
theorem ar_small {a b c : Dr} (ha : goodP a = true) (hb : goodP b = true) (hc : goodP c = true) : -137438953472 ≤ arZ a b c ∧ arZ a b c ≤ 137438953472 := by
  obtain ⟨a1, a2, a3⟩ := goodP_iff.1 ha
  obtain ⟨b1, b2, b3⟩ := goodP_iff.1 hb
  obtain ⟨c1, c2, c3⟩ := goodP_iff.1 hc
  have h1 := mul_18 (x := b.x - a.x) (y := c.y - a.y) (by omega) (by omega)
  have h2 := mul_18 (x := b.y - a.y) (y := c.x - a.x) (by omega) (by omega)
  unfold arZ
  omega
end Go.Pl
namespace Go.Proofs.YtlnbeildplafbaaGreatDoor
open Go.RowKit Go.Grow Go.Wd Go.Atl Go.Pl

set_option maxRecDepth 100000 in
set_option maxHeartbeats 16000000 in
theorem good_walk (d : Dr) (w : World) : Calls Tryz.prog 53 #[drV d] w fun e w' => e = .returned (.bool (goodP d)) ∧ Below w.heap.size w w' := by
  obtain ⟨x, y, z⟩ := d
  unfold drV
  by_cases h1 : 0 ≤ x
  · by_cases h2 : x ≤ 262144
    · by_cases h3 : 0 ≤ y
      · by_cases h4 : y ≤ 262144
        · cases h5 : (z == 0)
          · have HG : goodP ⟨x, y, z⟩ = false := by unfold goodP; simp [h1, h2, h3, h4, (beq_eq_false_iff_ne.1 h5)]
            rw [HG]
            have d1 : decide (0 ≤ x) = true := decide_eq_true h1
            have d2 : decide (x ≤ 262144) = true := decide_eq_true h2
            have d3 : decide (0 ≤ y) = true := decide_eq_true h3
            have d4 : decide (y ≤ 262144) = true := decide_eq_true h4
            clear HG
            go_enter Tryz.func53, Tryz.ntmps53
            go_wp2
            go_ret
            exact ⟨rfl, (by (repeat (with_reducible first | exact grow_refl _ | refine Grow.grow_drewN ?_ _ | refine Grow.grow_drew ?_ | refine Grow.grow_alloc ?_ _)))⟩
          · have HG : goodP ⟨x, y, z⟩ = true := by unfold goodP; simp [h1, h2, h3, h4, (beq_iff_eq.1 h5)]
            rw [HG]
            have d1 : decide (0 ≤ x) = true := decide_eq_true h1
            have d2 : decide (x ≤ 262144) = true := decide_eq_true h2
            have d3 : decide (0 ≤ y) = true := decide_eq_true h3
            have d4 : decide (y ≤ 262144) = true := decide_eq_true h4
            clear HG
            go_enter Tryz.func53, Tryz.ntmps53
            go_wp2
            go_ret
            exact ⟨rfl, (by (repeat (with_reducible first | exact grow_refl _ | refine Grow.grow_drewN ?_ _ | refine Grow.grow_drew ?_ | refine Grow.grow_alloc ?_ _)))⟩
        · have HG : goodP ⟨x, y, z⟩ = false := by unfold goodP; simp [h4]
          rw [HG]
          have d1 : decide (0 ≤ x) = true := decide_eq_true h1
          have d2 : decide (x ≤ 262144) = true := decide_eq_true h2
          have d3 : decide (0 ≤ y) = true := decide_eq_true h3
          have d4 : decide (y ≤ 262144) = false := decide_eq_false h4
          clear HG
          go_enter Tryz.func53, Tryz.ntmps53
          go_wp2
          go_ret
          exact ⟨rfl, (by (repeat (with_reducible first | exact grow_refl _ | refine Grow.grow_drewN ?_ _ | refine Grow.grow_drew ?_ | refine Grow.grow_alloc ?_ _)))⟩
      · have HG : goodP ⟨x, y, z⟩ = false := by unfold goodP; simp [h3]
        rw [HG]
        have d1 : decide (0 ≤ x) = true := decide_eq_true h1
        have d2 : decide (x ≤ 262144) = true := decide_eq_true h2
        have d3 : decide (0 ≤ y) = false := decide_eq_false h3
        clear HG
        go_enter Tryz.func53, Tryz.ntmps53
        go_wp2
        go_ret
        exact ⟨rfl, (by (repeat (with_reducible first | exact grow_refl _ | refine Grow.grow_drewN ?_ _ | refine Grow.grow_drew ?_ | refine Grow.grow_alloc ?_ _)))⟩
    · have HG : goodP ⟨x, y, z⟩ = false := by unfold goodP; simp [h2]
      rw [HG]
      have d1 : decide (0 ≤ x) = true := decide_eq_true h1
      have d2 : decide (x ≤ 262144) = false := decide_eq_false h2
      clear HG
      go_enter Tryz.func53, Tryz.ntmps53
      go_wp2
      go_ret
      exact ⟨rfl, (by (repeat (with_reducible first | exact grow_refl _ | refine Grow.grow_drewN ?_ _ | refine Grow.grow_drew ?_ | refine Grow.grow_alloc ?_ _)))⟩
  · have HG : goodP ⟨x, y, z⟩ = false := by unfold goodP; simp [h1]
    rw [HG]
    have d1 : decide (0 ≤ x) = false := decide_eq_false h1
    clear HG
    go_enter Tryz.func53, Tryz.ntmps53
    go_wp2
    go_ret
    exact ⟨rfl, (by (repeat (with_reducible first | exact grow_refl _ | refine Grow.grow_drewN ?_ _ | refine Grow.grow_drew ?_ | refine Grow.grow_alloc ?_ _)))⟩
set_option maxRecDepth 100000 in
set_option maxHeartbeats 16000000 in
theorem square_walk (a b : Dr) (ha : goodP a = true) (hb : goodP b = true) (w : World) : Calls Tryz.prog 56 #[drV a, drV b] w fun e w' => e = .returned (.int .i64 (sqZ a b)) ∧ Below w.heap.size w w' := by
  obtain ⟨a1, a2, a3⟩ := goodP_iff.1 ha
  obtain ⟨b1, b2, b3⟩ := goodP_iff.1 hb
  have m1 := mul_18 (x := a.x - b.x) (y := a.x - b.x) (by omega) (by omega)
  have m2 := mul_18 (x := a.y - b.y) (y := a.y - b.y) (by omega) (by omega)
  have e1 : wrap64 (a.x - b.x) = a.x - b.x := wrap64_mid (by omega)
  have e2 : wrap64 (a.y - b.y) = a.y - b.y := wrap64_mid (by omega)
  have e3 : wrap64 ((a.x - b.x) * (a.x - b.x)) = (a.x - b.x) * (a.x - b.x) := wrap64_mid (by omega)
  have e4 : wrap64 ((a.y - b.y) * (a.y - b.y)) = (a.y - b.y) * (a.y - b.y) := wrap64_mid (by omega)
  have e5 : wrap64 ((a.x - b.x) * (a.x - b.x) + (a.y - b.y) * (a.y - b.y)) = (a.x - b.x) * (a.x - b.x) + (a.y - b.y) * (a.y - b.y) := wrap64_mid (by omega)
  clear m1 m2 ha hb a1 a2 a3 b1 b2 b3
  unfold drV
  go_enter Tryz.func56, Tryz.ntmps56
  go_wp2
  go_ret
  refine ⟨?_, (by (repeat (with_reducible first | exact grow_refl _ | refine Grow.grow_drewN ?_ _ | refine Grow.grow_drew ?_ | refine Grow.grow_alloc ?_ _)))⟩
  unfold sqZ
  first
    | rfl
    | (show Ending.returned (.int .i64 (wrap64 ((a.x - b.x) * (a.x - b.x) + (a.y - b.y) * (a.y - b.y)))) = _
       rw [e5])
set_option maxRecDepth 100000 in
set_option maxHeartbeats 16000000 in
theorem between_walk (a b : Dr) (ha : goodP a = true) (hb : goodP b = true) (w : World) : Calls Tryz.prog 24 #[drV a, drV b] w fun e w' => e = .returned (.int .i64 (sqZ a b)) ∧ Below w.heap.size w w' := by
  obtain ⟨a1, a2, a3⟩ := goodP_iff.1 ha
  obtain ⟨b1, b2, b3⟩ := goodP_iff.1 hb
  have m1 := mul_18 (x := a.x - b.x) (y := a.x - b.x) (by omega) (by omega)
  have m2 := mul_18 (x := a.y - b.y) (y := a.y - b.y) (by omega) (by omega)
  have e1 : wrap64 (a.x - b.x) = a.x - b.x := wrap64_mid (by omega)
  have e2 : wrap64 (a.y - b.y) = a.y - b.y := wrap64_mid (by omega)
  have e3 : wrap64 ((a.x - b.x) * (a.x - b.x)) = (a.x - b.x) * (a.x - b.x) := wrap64_mid (by omega)
  have e4 : wrap64 ((a.y - b.y) * (a.y - b.y)) = (a.y - b.y) * (a.y - b.y) := wrap64_mid (by omega)
  have e5 : wrap64 ((a.x - b.x) * (a.x - b.x) + (a.y - b.y) * (a.y - b.y)) = (a.x - b.x) * (a.x - b.x) + (a.y - b.y) * (a.y - b.y) := wrap64_mid (by omega)
  clear m1 m2 ha hb a1 a2 a3 b1 b2 b3
  unfold drV
  go_enter Tryz.func24, Tryz.ntmps24
  go_wp2
  go_ret
  refine ⟨?_, (by (repeat (with_reducible first | exact grow_refl _ | refine Grow.grow_drewN ?_ _ | refine Grow.grow_drew ?_ | refine Grow.grow_alloc ?_ _)))⟩
  unfold sqZ
  first
    | rfl
    | (show Ending.returned (.int .i64 (wrap64 ((a.x - b.x) * (a.x - b.x) + (a.y - b.y) * (a.y - b.y)))) = _
       rw [e5])
set_option maxRecDepth 100000 in
set_option maxHeartbeats 16000000 in
theorem area_walk (a b c : Dr) (ha : goodP a = true) (hb : goodP b = true) (hc : goodP c = true) (w : World) : Calls Tryz.prog 54 #[drV a, drV b, drV c] w fun e w' => e = .returned (.int .i64 (arZ a b c)) ∧ Below w.heap.size w w' := by
  obtain ⟨a1, a2, a3⟩ := goodP_iff.1 ha
  obtain ⟨b1, b2, b3⟩ := goodP_iff.1 hb
  obtain ⟨c1, c2, c3⟩ := goodP_iff.1 hc
  have m0 := mul_18 (x := b.x - a.x) (y := c.y - a.y) (by omega) (by omega)
  have m1 := mul_18 (x := b.y - a.y) (y := c.x - a.x) (by omega) (by omega)
  have e0 : wrap64 (b.x - a.x) = b.x - a.x := wrap64_mid (by omega)
  have e1 : wrap64 (b.y - a.y) = b.y - a.y := wrap64_mid (by omega)
  have e2 : wrap64 (c.x - a.x) = c.x - a.x := wrap64_mid (by omega)
  have e3 : wrap64 (c.y - a.y) = c.y - a.y := wrap64_mid (by omega)
  have p0 : wrap64 ((b.x - a.x) * (c.y - a.y)) = (b.x - a.x) * (c.y - a.y) := wrap64_mid (by omega)
  have p1 : wrap64 ((b.y - a.y) * (c.x - a.x)) = (b.y - a.y) * (c.x - a.x) := wrap64_mid (by omega)
  have s0 : wrap64 ((b.x - a.x) * (c.y - a.y) - (b.y - a.y) * (c.x - a.x)) = (b.x - a.x) * (c.y - a.y) - (b.y - a.y) * (c.x - a.x) := wrap64_mid (by omega)
  clear m0 m1 ha hb hc a1 a2 a3 b1 b2 b3 c1 c2 c3
  unfold arZ
  unfold drV
  go_enter Tryz.func54, Tryz.ntmps54
  go_wp2
  go_ret
  refine ⟨?_, (by (repeat (with_reducible first | exact grow_refl _ | refine Grow.grow_drewN ?_ _ | refine Grow.grow_drew ?_ | refine Grow.grow_alloc ?_ _)))⟩
  first
    | rfl
    | (show Ending.returned (.int .i64 (wrap64 ((b.x - a.x) * (c.y - a.y) - (b.y - a.y) * (c.x - a.x)))) = _
       rw [s0])
set_option maxRecDepth 100000 in
set_option maxHeartbeats 16000000 in
theorem twice_walk (a b c : Dr) (ha : goodP a = true) (hb : goodP b = true) (hc : goodP c = true) (w : World) : Calls Tryz.prog 23 #[drV a, drV b, drV c] w fun e w' => e = .returned (.int .i64 (arZ a b c)) ∧ Below w.heap.size w w' := by
  obtain ⟨a1, a2, a3⟩ := goodP_iff.1 ha
  obtain ⟨b1, b2, b3⟩ := goodP_iff.1 hb
  obtain ⟨c1, c2, c3⟩ := goodP_iff.1 hc
  have m0 := mul_18 (x := a.x) (y := b.y - c.y) (by omega) (by omega)
  have m1 := mul_18 (x := b.x) (y := c.y - a.y) (by omega) (by omega)
  have m2 := mul_18 (x := c.x) (y := a.y - b.y) (by omega) (by omega)
  have e0 : wrap64 (a.y - b.y) = a.y - b.y := wrap64_mid (by omega)
  have e1 : wrap64 (b.y - c.y) = b.y - c.y := wrap64_mid (by omega)
  have e2 : wrap64 (c.y - a.y) = c.y - a.y := wrap64_mid (by omega)
  have p0 : wrap64 (a.x * (b.y - c.y)) = a.x * (b.y - c.y) := wrap64_mid (by omega)
  have p1 : wrap64 (b.x * (c.y - a.y)) = b.x * (c.y - a.y) := wrap64_mid (by omega)
  have p2 : wrap64 (c.x * (a.y - b.y)) = c.x * (a.y - b.y) := wrap64_mid (by omega)
  have s0 : wrap64 (a.x * (b.y - c.y) + b.x * (c.y - a.y)) = a.x * (b.y - c.y) + b.x * (c.y - a.y) := wrap64_mid (by omega)
  have s1 : wrap64 (a.x * (b.y - c.y) + b.x * (c.y - a.y) + c.x * (a.y - b.y)) = a.x * (b.y - c.y) + b.x * (c.y - a.y) + c.x * (a.y - b.y) := wrap64_mid (by omega)
  clear m0 m1 m2 ha hb hc a1 a2 a3 b1 b2 b3 c1 c2 c3
  rw [← tw_ar]
  unfold drV
  go_enter Tryz.func23, Tryz.ntmps23
  go_wp2
  go_ret
  refine ⟨?_, (by (repeat (with_reducible first | exact grow_refl _ | refine Grow.grow_drewN ?_ _ | refine Grow.grow_drew ?_ | refine Grow.grow_alloc ?_ _)))⟩
  first
    | rfl
    | (show Ending.returned (.int .i64 (wrap64 (a.x * (b.y - c.y) + b.x * (c.y - a.y) + c.x * (a.y - b.y)))) = _
       rw [s1])
set_option maxRecDepth 100000 in
set_option maxHeartbeats 16000000 in
theorem isPoint_walk (d : Dr) (w : World) : Calls Tryz.prog 22 #[drV d] w fun e w' => e = .returned (.bool (goodP d)) ∧ Below w.heap.size w w' := by
  obtain ⟨x, y, z⟩ := d
  unfold drV
  have HG : goodP ⟨x, y, z⟩ = (decide (0 ≤ x) && decide (x ≤ 262144) && decide (0 ≤ y) && decide (y ≤ 262144) && decide (z = 0)) := rfl
  rw [HG]
  clear HG
  by_cases h1 : 0 ≤ x <;> by_cases h2 : x ≤ 262144 <;> by_cases h3 : 0 ≤ y <;> by_cases h4 : y ≤ 262144 <;> cases h5 : (z == 0)
  all_goals try (exfalso; omega)
  all_goals
    first
      | have d1 : decide (0 ≤ x) = true := decide_eq_true h1
      | have d1 : decide (0 ≤ x) = false := decide_eq_false h1
    first
      | have d2 : decide (x ≤ 262144) = true := decide_eq_true h2
      | have d2 : decide (x ≤ 262144) = false := decide_eq_false h2
    first
      | have d3 : decide (0 ≤ y) = true := decide_eq_true h3
      | have d3 : decide (0 ≤ y) = false := decide_eq_false h3
    first
      | have d4 : decide (y ≤ 262144) = true := decide_eq_true h4
      | have d4 : decide (y ≤ 262144) = false := decide_eq_false h4
    have d5 : decide (z = 0) = (z == 0) := by cases h : decide (z = 0) <;> simp_all
    rw [d1, d2, d3, d4, d5, h5]
    clear d5
    go_enter Tryz.func22, Tryz.ntmps22
    go_wp2
    go_ret
    exact ⟨rfl, (by (repeat (with_reducible first | exact grow_refl _ | refine Grow.grow_drewN ?_ _ | refine Grow.grow_drew ?_ | refine Grow.grow_alloc ?_ _)))⟩
end Go.Proofs.YtlnbeildplafbaaGreatDoor
/- Shapes of three points: the sides across the corners, in order. -/
set_option linter.unusedSimpArgs false
set_option linter.unusedVariables false
namespace Go.Pl
open Go.Atl
def acr (a b c : Dr) : Nat → Int
  | 0 => sqZ b c
  | 1 => sqZ c a
  | _ => sqZ a b
theorem acr_small {a b c : Dr} (ha : goodP a = true) (hb : goodP b = true) (hc : goodP c = true) (k : Nat) : 0 ≤ acr a b c k ∧ acr a b c k ≤ 137438953472 := by
  unfold acr
  split
  · exact sq_small hb hc
  · exact sq_small hc ha
  · exact sq_small ha hb
/-- Three numbers by what stands across them, the greatest first, equal ones as they came. -/
def ord3 (D : Nat → Int) : Nat × Nat × Nat :=
  if D 0 < D 1 then (if D 0 < D 2 then (if D 1 < D 2 then (2, 1, 0) else (1, 2, 0)) else (1, 0, 2))
  else (if D 1 < D 2 then (if D 0 < D 2 then (2, 0, 1) else (0, 2, 1)) else (0, 1, 2))
end Go.Pl
namespace Go.Proofs.YtlnbeildplafbaaGreatDoor
open Go.RowKit Go.Grow Go.Wd Go.Atl Go.Pl

def cellsP (a b c : Dr) : Array Value := #[.int .i64 a.x, .int .i64 a.y, .int .i64 a.z, .int .i64 b.x, .int .i64 b.y, .int .i64 b.z, .int .i64 c.x, .int .i64 c.y, .int .i64 c.z]
set_option maxRecDepth 100000 in
set_option maxHeartbeats 16000000 in
theorem across0_walk (a b c : Dr) (ha : goodP a = true) (hb : goodP b = true) (hc : goodP c = true) (w : World) (bp : Nat) (h : Known w bp (cellsP a b c)) :
    Calls Tryz.prog 55 #[.int .i64 0, .pointer (some ⟨bp, 0, none⟩)] w fun e w' => e = .returned (.int .i64 (sqZ b c)) ∧ Below w.heap.size w w' := by
  have SQ := Lib.hid (fun X => square_walk b c hb hc X)
  unfold drV at SQ
  have c0 := h.cell 0
  have c1 := h.cell 1
  have c2 := h.cell 2
  have c3 := h.cell 3
  have c4 := h.cell 4
  have c5 := h.cell 5
  have c6 := h.cell 6
  have c7 := h.cell 7
  have c8 := h.cell 8
  have lt := h.lt
  simp only [cellsP, List.getElem?_toArray, List.getElem?_cons_zero, List.getElem?_cons_succ] at c0 c1 c2 c3 c4 c5 c6 c7 c8
  clear h
  go_enter Tryz.func55, Tryz.ntmps55
  go_upto_region 1 with (fail)
  refine Grow.wp_region_plan (.quiet [0, 1, 2, 3, 5, 6, 7, 8] (.reads [4, 9] (.tail [10, 11]))) (by kernel_rfl) (by kernel_rfl) (by kernel_rfl) (by kernel_rfl) ?_ ?_
  · intro c aa d v ww h
    first
      | exact Grow.bodyPost_blind h
      | (simp (config := {zetaDelta := true}) only [Exit.then, Exit.inBlock] at h ⊢; first | exact Grow.bodyPost_blind h | exact h)
  simp only [Grow.Plan.wp, Grow.pick, List.getElem?_cons_zero, List.getElem?_cons_succ, List.cons_append, List.nil_append]
  repeat (go_big_quiet_step (fail))
  refine wpQuiet_nil ?_
  repeat (go_big_quiet_step (fail))
  refine wpQuiet_nil ?_
  go_wp2_with (go_at_call 56; (with_reducible refine (SQ.out _).mono ?_); rintro e w1 ⟨rfl, hb⟩; have HB := Lib.hid (grow_trans (by (repeat (with_reducible first | exact grow_refl _ | assumption | refine Grow.grow_drewN ?_ _ | refine Grow.grow_drew ?_ | refine Grow.grow_alloc ?_ _))) hb : Below w.heap.size w w1); clear hb)
  go_ret
  exact ⟨rfl, HB.out⟩
set_option maxRecDepth 100000 in
set_option maxHeartbeats 16000000 in
theorem across1_walk (a b c : Dr) (ha : goodP a = true) (hb : goodP b = true) (hc : goodP c = true) (w : World) (bp : Nat) (h : Known w bp (cellsP a b c)) :
    Calls Tryz.prog 55 #[.int .i64 1, .pointer (some ⟨bp, 0, none⟩)] w fun e w' => e = .returned (.int .i64 (sqZ c a)) ∧ Below w.heap.size w w' := by
  have SQ := Lib.hid (fun X => square_walk c a hc ha X)
  unfold drV at SQ
  have c0 := h.cell 0
  have c1 := h.cell 1
  have c2 := h.cell 2
  have c3 := h.cell 3
  have c4 := h.cell 4
  have c5 := h.cell 5
  have c6 := h.cell 6
  have c7 := h.cell 7
  have c8 := h.cell 8
  have lt := h.lt
  simp only [cellsP, List.getElem?_toArray, List.getElem?_cons_zero, List.getElem?_cons_succ] at c0 c1 c2 c3 c4 c5 c6 c7 c8
  clear h
  go_enter Tryz.func55, Tryz.ntmps55
  go_upto_region 1 with (fail)
  refine Grow.wp_region_plan (.quiet [0, 1, 2, 3, 5, 6, 7, 8] (.reads [4, 9] (.tail [10, 11]))) (by kernel_rfl) (by kernel_rfl) (by kernel_rfl) (by kernel_rfl) ?_ ?_
  · intro c aa d v ww h
    first
      | exact Grow.bodyPost_blind h
      | (simp (config := {zetaDelta := true}) only [Exit.then, Exit.inBlock] at h ⊢; first | exact Grow.bodyPost_blind h | exact h)
  simp only [Grow.Plan.wp, Grow.pick, List.getElem?_cons_zero, List.getElem?_cons_succ, List.cons_append, List.nil_append]
  repeat (go_big_quiet_step (fail))
  refine wpQuiet_nil ?_
  repeat (go_big_quiet_step (fail))
  refine wpQuiet_nil ?_
  go_wp2_with (go_at_call 56; (with_reducible refine (SQ.out _).mono ?_); rintro e w1 ⟨rfl, hb⟩; have HB := Lib.hid (grow_trans (by (repeat (with_reducible first | exact grow_refl _ | assumption | refine Grow.grow_drewN ?_ _ | refine Grow.grow_drew ?_ | refine Grow.grow_alloc ?_ _))) hb : Below w.heap.size w w1); clear hb)
  go_ret
  exact ⟨rfl, HB.out⟩
set_option maxRecDepth 100000 in
set_option maxHeartbeats 16000000 in
theorem across2_walk (a b c : Dr) (ha : goodP a = true) (hb : goodP b = true) (hc : goodP c = true) (w : World) (bp : Nat) (h : Known w bp (cellsP a b c)) :
    Calls Tryz.prog 55 #[.int .i64 2, .pointer (some ⟨bp, 0, none⟩)] w fun e w' => e = .returned (.int .i64 (sqZ a b)) ∧ Below w.heap.size w w' := by
  have SQ := Lib.hid (fun X => square_walk a b ha hb X)
  unfold drV at SQ
  have c0 := h.cell 0
  have c1 := h.cell 1
  have c2 := h.cell 2
  have c3 := h.cell 3
  have c4 := h.cell 4
  have c5 := h.cell 5
  have c6 := h.cell 6
  have c7 := h.cell 7
  have c8 := h.cell 8
  have lt := h.lt
  simp only [cellsP, List.getElem?_toArray, List.getElem?_cons_zero, List.getElem?_cons_succ] at c0 c1 c2 c3 c4 c5 c6 c7 c8
  clear h
  go_enter Tryz.func55, Tryz.ntmps55
  go_upto_region 1 with (fail)
  refine Grow.wp_region_plan (.quiet [0, 1, 2, 3, 5, 6, 7, 8] (.reads [4, 9] (.tail [10, 11]))) (by kernel_rfl) (by kernel_rfl) (by kernel_rfl) (by kernel_rfl) ?_ ?_
  · intro c aa d v ww h
    first
      | exact Grow.bodyPost_blind h
      | (simp (config := {zetaDelta := true}) only [Exit.then, Exit.inBlock] at h ⊢; first | exact Grow.bodyPost_blind h | exact h)
  simp only [Grow.Plan.wp, Grow.pick, List.getElem?_cons_zero, List.getElem?_cons_succ, List.cons_append, List.nil_append]
  repeat (go_big_quiet_step (fail))
  refine wpQuiet_nil ?_
  repeat (go_big_quiet_step (fail))
  refine wpQuiet_nil ?_
  go_wp2_with (go_at_call 56; (with_reducible refine (SQ.out _).mono ?_); rintro e w1 ⟨rfl, hb⟩; have HB := Lib.hid (grow_trans (by (repeat (with_reducible first | exact grow_refl _ | assumption | refine Grow.grow_drewN ?_ _ | refine Grow.grow_drew ?_ | refine Grow.grow_alloc ?_ _))) hb : Below w.heap.size w w1); clear hb)
  go_ret
  exact ⟨rfl, HB.out⟩
theorem across_walk (a b c : Dr) (ha : goodP a = true) (hb : goodP b = true) (hc : goodP c = true) (k : Nat) (hk : k < 3) (w : World) (bp : Nat) (h : Known w bp (cellsP a b c)) :
    Calls Tryz.prog 55 #[.int .i64 (k : Nat), .pointer (some ⟨bp, 0, none⟩)] w fun e w' => e = .returned (.int .i64 (acr a b c k)) ∧ Below w.heap.size w w' := by
  match k, hk with
  | 0, _ => exact across0_walk a b c ha hb hc w bp h
  | 1, _ => exact across1_walk a b c ha hb hc w bp h
  | 2, _ => exact across2_walk a b c ha hb hc w bp h
def acrV (bp : Nat) : Value := .func (.func 55) #[] #[.pointer (some ⟨bp, 0, none⟩)]
/-- Where the points lie, and the function that takes a side. -/
structure Pts (w : World) (bp bt : Nat) (a b c : Dr) : Prop where
  p : Known w bp (cellsP a b c)
  t : Known w bt #[acrV bp]
theorem Pts.below {w w' : World} {bp bt : Nat} {a b c : Dr} (h : Pts w bp bt a b c) (hb : Below w.heap.size w w') : Pts w' bp bt a b c := ⟨h.p.below hb, h.t.below hb⟩
set_option maxRecDepth 100000 in
set_option maxHeartbeats 16000000 in
theorem cmp3_walk (a b c : Dr) (ha : goodP a = true) (hb : goodP b = true) (hc : goodP c = true) (i j : Nat) (hi : i < 3) (hj : j < 3) (w : World) (bp bt : Nat) (h : Pts w bp bt a b c) :
    Calls Tryz.prog 58 #[.int .i64 (i : Nat), .int .i64 (j : Nat), .pointer (some ⟨bt, 0, none⟩)] w fun e w' => e = .returned (.int .i64 (acr a b c j - acr a b c i)) ∧ Below w.heap.size w w' := by
  have AI := Lib.hid (fun X (hX : Below w.heap.size w X) => across_walk a b c ha hb hc i hi X bp (h.p.below hX))
  have AJ := Lib.hid (fun X (hX : Below w.heap.size w X) => across_walk a b c ha hb hc j hj X bp (h.p.below hX))
  have c0 := h.t.cell 0
  have lt := h.t.lt
  have si := acr_small ha hb hc i
  have sj := acr_small ha hb hc j
  simp only [acrV, List.getElem?_toArray, List.getElem?_cons_zero] at c0
  clear h
  generalize acr a b c i = di at *
  generalize acr a b c j = dj at *
  have m1 : wrap64 (dj - di) = dj - di := wrap64_mid (by omega)
  clear si sj
  go_enter Tryz.func58, Tryz.ntmps58
  go_upto_region 1 with (fail)
  refine Grow.wp_region_calls (grow_refl w) [1, 4] [0, 3] [2, 5, 6, 7] (by kernel_rfl) (by kernel_rfl) (by kernel_rfl) (by kernel_rfl) (by kernel_rfl) (by kernel_rfl) ?_ ?_
  · intro c aa d v ww h
    simp (config := {zetaDelta := true}) only [Exit.then, Exit.inBlock] at h ⊢
    first | exact h | exact Grow.bodyPost_blind h
  simp only [Grow.pick, List.getElem?_cons_zero, List.getElem?_cons_succ, List.cons_append, List.nil_append]
  repeat (go_big_quiet_step (fail))
  refine wpQuiet_nil ?_
  repeat (go_big_quiet_step (fail))
  refine wpQuiet_nil ?_
  unfold seqC
  go_wp2_with (first
    | (go_at_call 55; (with_reducible refine (AJ.out _ (by (repeat (with_reducible first | exact grow_refl _ | assumption | refine Grow.grow_drewN ?_ _ | refine Grow.grow_drew ?_ | refine Grow.grow_alloc ?_ _)))).mono ?_); rintro e w1 ⟨rfl, hb⟩; have B1 : Below w.heap.size w w1 := grow_trans (by (repeat (with_reducible first | exact grow_refl _ | assumption | refine Grow.grow_drewN ?_ _ | refine Grow.grow_drew ?_ | refine Grow.grow_alloc ?_ _))) hb; clear hb AJ))
  unfold seqC
  go_wp2_with (first
    | (go_at_call 55; (with_reducible refine (AI.out _ B1).mono ?_); rintro e w2 ⟨rfl, hb⟩; have B2 : Below w.heap.size w w2 := grow_trans B1 hb; clear hb AI))
  unfold seqC
  go_wp2
  unfold seqC
  go_wp2
  unfold seqC
  go_wp2
  go_ret
  refine ⟨?_, B2⟩
  first
    | rfl
    | (show Ending.returned (.int .i64 (wrap64 (dj - di))) = _
       rw [m1])
end Go.Proofs.YtlnbeildplafbaaGreatDoor
