/- Cells: whether they are right; those in which they lie. -/
import Derived.Test.YtjjjbkehmnfgbaaDoorAc6
set_option linter.unusedSimpArgs false
set_option linter.unusedVariables false
namespace Go.Proofs.YtjjjbkehmnfgbaaDoor
open Go.RowKit Go.Grow Go.Atl

theorem validS_iff (s : Sp) : validS s = true ↔ 0 ≤ s.face ∧ s.face < 6 ∧ 0 ≤ s.level ∧ s.level ≤ 12 ∧ 0 ≤ s.col ∧ 0 ≤ s.row ∧ s.col < 2 ^ s.level.toNat ∧ s.row < 2 ^ s.level.toNat := by
  unfold validS
  simp only [Bool.and_eq_true, decide_eq_true_eq]
  constructor
  · rintro ⟨⟨⟨⟨⟨⟨⟨a, b⟩, c⟩, d⟩, e⟩, f⟩, g⟩, h⟩; exact ⟨a, b, c, d, e, f, g, h⟩
  · rintro ⟨a, b, c, d, e, f, g, h⟩; exact ⟨⟨⟨⟨⟨⟨⟨a, b⟩, c⟩, d⟩, e⟩, f⟩, g⟩, h⟩
theorem valid_no {s : Sp} (h : ¬ (0 ≤ s.face ∧ s.face < 6 ∧ 0 ≤ s.level ∧ s.level ≤ 12 ∧ 0 ≤ s.col ∧ 0 ≤ s.row ∧ s.col < 2 ^ s.level.toNat ∧ s.row < 2 ^ s.level.toNat)) : validS s = false := by
  cases hv : validS s with
  | false => rfl
  | true => exact absurd ((validS_iff s).1 hv) h
set_option maxRecDepth 100000 in
set_option maxHeartbeats 16000000 in
theorem valid_spot (s : Sp) (w : World) :
    Calls Tryd.prog 24 #[spV s] w fun e w' => e = .returned (.bool (validS s)) ∧ Below w.heap.size w w' := by
  obtain ⟨fc, lv, cl, rw_⟩ := s
  unfold spV
  simp only
  by_cases c0 : 0 ≤ fc
  rotate_left
  · have u0 : decide (0 ≤ fc) = false := decide_eq_false c0
    have HZ := Lib.hid (valid_no (s := ⟨fc, lv, cl, rw_⟩) (fun h => c0 h.1))
    go_enter Tryd.func24, Tryd.ntmps24
    go_wp2
    go_quiet (fail)
    go_wp2
    go_ret
    exact ⟨by rw [HZ.out]; rfl, (by (repeat (with_reducible first | exact grow_refl _ | refine Grow.grow_drewN ?_ _ | refine Grow.grow_drew ?_ | refine Grow.grow_alloc ?_ _)))⟩
  · have u0 : decide (0 ≤ fc) = true := decide_eq_true c0
    by_cases c1 : fc < 6
    rotate_left
    · have u1 : decide (fc < 6) = false := decide_eq_false c1
      have HZ := Lib.hid (valid_no (s := ⟨fc, lv, cl, rw_⟩) (fun h => c1 h.2.1))
      go_enter Tryd.func24, Tryd.ntmps24
      go_wp2
      go_quiet (fail)
      go_wp2
      go_ret
      exact ⟨by rw [HZ.out]; rfl, (by (repeat (with_reducible first | exact grow_refl _ | refine Grow.grow_drewN ?_ _ | refine Grow.grow_drew ?_ | refine Grow.grow_alloc ?_ _)))⟩
    · have u1 : decide (fc < 6) = true := decide_eq_true c1
      by_cases c2 : 0 ≤ lv
      rotate_left
      · have u2 : decide (0 ≤ lv) = false := decide_eq_false c2
        have HZ := Lib.hid (valid_no (s := ⟨fc, lv, cl, rw_⟩) (fun h => c2 h.2.2.1))
        go_enter Tryd.func24, Tryd.ntmps24
        go_wp2
        go_quiet (fail)
        go_wp2
        go_ret
        exact ⟨by rw [HZ.out]; rfl, (by (repeat (with_reducible first | exact grow_refl _ | refine Grow.grow_drewN ?_ _ | refine Grow.grow_drew ?_ | refine Grow.grow_alloc ?_ _)))⟩
      · have u2 : decide (0 ≤ lv) = true := decide_eq_true c2
        by_cases c3 : lv ≤ 12
        rotate_left
        · have u3 : decide (lv ≤ 12) = false := decide_eq_false c3
          have HZ := Lib.hid (valid_no (s := ⟨fc, lv, cl, rw_⟩) (fun h => c3 h.2.2.2.1))
          go_enter Tryd.func24, Tryd.ntmps24
          go_wp2
          go_quiet (fail)
          go_wp2
          go_ret
          exact ⟨by rw [HZ.out]; rfl, (by (repeat (with_reducible first | exact grow_refl _ | refine Grow.grow_drewN ?_ _ | refine Grow.grow_drew ?_ | refine Grow.grow_alloc ?_ _)))⟩
        · have u3 : decide (lv ≤ 12) = true := decide_eq_true c3
          obtain ⟨L, rfl⟩ : ∃ L : Nat, lv = (L : Int) := ⟨lv.toNat, by omega⟩
          have hsh := shl_12 L (by omega)
          have HP := Lib.hid (show (2 : Int) ^ ((L : Int).toNat) = ((2 ^ L : Nat) : Int) by rw [Int.toNat_natCast]; push_cast; rfl)
          have hP1 : 1 ≤ 2 ^ L := Nat.one_le_two_pow
          obtain ⟨P, hP⟩ : ∃ P : Int, ((2 ^ L : Nat) : Int) = P := ⟨_, rfl⟩
          rw [hP] at hsh HP
          clear hP hP1
          by_cases c4 : 0 ≤ cl
          rotate_left
          · have u4 : decide (0 ≤ cl) = false := decide_eq_false c4
            have HZ := Lib.hid (valid_no (s := ⟨fc, (L : Int), cl, rw_⟩) (fun h => c4 h.2.2.2.2.1))
            clear HP
            go_enter Tryd.func24, Tryd.ntmps24
            go_wp2
            go_quiet (fail)
            go_wp2
            go_ret
            exact ⟨by rw [HZ.out]; rfl, (by (repeat (with_reducible first | exact grow_refl _ | refine Grow.grow_drewN ?_ _ | refine Grow.grow_drew ?_ | refine Grow.grow_alloc ?_ _)))⟩
          · have u4 : decide (0 ≤ cl) = true := decide_eq_true c4
            by_cases c5 : 0 ≤ rw_
            rotate_left
            · have u5 : decide (0 ≤ rw_) = false := decide_eq_false c5
              have HZ := Lib.hid (valid_no (s := ⟨fc, (L : Int), cl, rw_⟩) (fun h => c5 h.2.2.2.2.2.1))
              clear HP
              go_enter Tryd.func24, Tryd.ntmps24
              go_wp2
              go_quiet (fail)
              go_wp2
              go_ret
              exact ⟨by rw [HZ.out]; rfl, (by (repeat (with_reducible first | exact grow_refl _ | refine Grow.grow_drewN ?_ _ | refine Grow.grow_drew ?_ | refine Grow.grow_alloc ?_ _)))⟩
            · have u5 : decide (0 ≤ rw_) = true := decide_eq_true c5
              by_cases c6 : cl < P
              rotate_left
              · have u6 : decide (cl < P) = false := decide_eq_false c6
                have HZ := Lib.hid (valid_no (s := ⟨fc, (L : Int), cl, rw_⟩) (fun h => c6 (by have := h.2.2.2.2.2.2.1; rw [HP.out] at this; exact this)))
                clear HP
                go_enter Tryd.func24, Tryd.ntmps24
                go_wp2
                go_quiet (fail)
                go_wp2
                go_ret
                exact ⟨by rw [HZ.out]; rfl, (by (repeat (with_reducible first | exact grow_refl _ | refine Grow.grow_drewN ?_ _ | refine Grow.grow_drew ?_ | refine Grow.grow_alloc ?_ _)))⟩
              · have u6 : decide (cl < P) = true := decide_eq_true c6
                by_cases c7 : rw_ < P
                rotate_left
                · have u7 : decide (rw_ < P) = false := decide_eq_false c7
                  have HZ := Lib.hid (valid_no (s := ⟨fc, (L : Int), cl, rw_⟩) (fun h => c7 (by have := h.2.2.2.2.2.2.2; rw [HP.out] at this; exact this)))
                  clear HP
                  go_enter Tryd.func24, Tryd.ntmps24
                  go_wp2
                  go_quiet (fail)
                  go_wp2
                  go_ret
                  exact ⟨by rw [HZ.out]; rfl, (by (repeat (with_reducible first | exact grow_refl _ | refine Grow.grow_drewN ?_ _ | refine Grow.grow_drew ?_ | refine Grow.grow_alloc ?_ _)))⟩
                · have u7 : decide (rw_ < P) = true := decide_eq_true c7
                  have HZ := Lib.hid ((validS_iff ⟨fc, (L : Int), cl, rw_⟩).2 ⟨c0, c1, c2, c3, c4, c5, by rw [HP.out]; exact c6, by rw [HP.out]; exact c7⟩)
                  clear HP
                  go_enter Tryd.func24, Tryd.ntmps24
                  go_wp2
                  go_quiet (fail)
                  go_wp2
                  go_ret
                  exact ⟨by rw [HZ.out]; rfl, (by (repeat (with_reducible first | exact grow_refl _ | refine Grow.grow_drewN ?_ _ | refine Grow.grow_drew ?_ | refine Grow.grow_alloc ?_ _)))⟩
end Go.Proofs.YtjjjbkehmnfgbaaDoor
