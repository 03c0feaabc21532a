/- Limits, commands: small functions of the mount and of the law; a new mount. -/
import Derived.Test.YtlfpfeidaohjmaaDoorMw1
set_option linter.unusedSimpArgs false
set_option linter.unusedVariables false
namespace Go.Proofs.YtlfpfeidaohjmaaDoor
open Go.RowKit Go.Grow Go.Mo

def limV (l : Lim) : Value := .agg #[.int .i64 l.low, .int .i64 l.high, .int .i64 l.fast, .int .i64 l.home]
def wideE (l : Lim) : Nat := if wide l then 2 else 0
theorem big_cases (n : Int) : (1099511627776 < n ∧ big n = true) ∨ (¬ (1099511627776 < n) ∧ n < -1099511627776 ∧ big n = true) ∨ (¬ (1099511627776 < n) ∧ ¬ (n < -1099511627776) ∧ big n = false) := by
  unfold big
  by_cases h : 1099511627776 < n
  · exact .inl ⟨h, by simp [h]⟩
  · by_cases g : n < -1099511627776
    · exact .inr (.inl ⟨h, g, by simp [g]⟩)
    · exact .inr (.inr ⟨h, g, by simp [h, g]⟩)

set_option maxRecDepth 100000 in
set_option maxHeartbeats 4000000 in
theorem valid_walk (a : Nat → Addr) (l : Lim) (w : World) (hsen : Sen a [2] w) :
    Calls Tryd.prog 71 #[limV l] w fun e w' => e = .returned (errV a (wideE l)) ∧ Below w.heap.size w w' := by
  have c2 : w.cell? ⟨gOf 2, 0, none⟩ = some (errV a 2) := (hsen 2 (by decide)).1
  have l2 := (hsen.lt (k := 2) (by decide)).1
  simp only [gOf] at c2 l2
  obtain ⟨low, high, fast, home⟩ := l
  unfold limV
  have i0 : ∀ w, (Instr.index 175 (.agg #[.int .i64 low, .int .i64 high, .int .i64 fast, .int .i64 home]) (.int .i64 0)).run Tryd.prog w = .ok (.int .i64 low) w := fun _ => by kernel_rfl
  have i1 : ∀ w, (Instr.index 175 (.agg #[.int .i64 low, .int .i64 high, .int .i64 fast, .int .i64 home]) (.int .i64 1)).run Tryd.prog w = .ok (.int .i64 high) w := fun _ => by kernel_rfl
  have i2 : ∀ w, (Instr.index 175 (.agg #[.int .i64 low, .int .i64 high, .int .i64 fast, .int .i64 home]) (.int .i64 2)).run Tryd.prog w = .ok (.int .i64 fast) w := fun _ => by kernel_rfl
  have i3 : ∀ w, (Instr.index 175 (.agg #[.int .i64 low, .int .i64 high, .int .i64 fast, .int .i64 home]) (.int .i64 3)).run Tryd.prog w = .ok (.int .i64 home) w := fun _ => by kernel_rfl
  rcases big_cases low with ⟨A0, hb0⟩ | ⟨A0, B0, hb0⟩ | ⟨A0, B0, hb0⟩
  · have hw : wideE ⟨low, high, fast, home⟩ = 2 := by simp [wideE, wide, hb0]
    have HW := Lib.hid hw
    clear hw hb0
    go_enter Tryd.func71, Tryd.ntmps71
    go_wp2
    refine wp_loop_rounds 5 ?_
    (try rw [rounds_succ])
    go_wp2
    go_ret
    refine ⟨by rw [HW.out]; rfl, ?_⟩
    (repeat (with_reducible first | exact Grow.grow_refl _ | refine Grow.grow_setCell ?_ ?_ _ | refine Grow.grow_alloc ?_ _ | refine Grow.grow_drewN ?_ _ | refine Grow.grow_drew ?_)) <;> (first | omega | (simp; done))
  · have hw : wideE ⟨low, high, fast, home⟩ = 2 := by simp [wideE, wide, hb0]
    have HW := Lib.hid hw
    clear hw hb0
    go_enter Tryd.func71, Tryd.ntmps71
    go_wp2
    refine wp_loop_rounds 5 ?_
    (try rw [rounds_succ])
    go_wp2
    go_ret
    refine ⟨by rw [HW.out]; rfl, ?_⟩
    (repeat (with_reducible first | exact Grow.grow_refl _ | refine Grow.grow_setCell ?_ ?_ _ | refine Grow.grow_alloc ?_ _ | refine Grow.grow_drewN ?_ _ | refine Grow.grow_drew ?_)) <;> (first | omega | (simp; done))
  · skip
    rcases big_cases high with ⟨A1, hb1⟩ | ⟨A1, B1, hb1⟩ | ⟨A1, B1, hb1⟩
    · have hw : wideE ⟨low, high, fast, home⟩ = 2 := by simp [wideE, wide, hb0, hb1]
      have HW := Lib.hid hw
      clear hw hb0 hb1
      go_enter Tryd.func71, Tryd.ntmps71
      go_wp2
      refine wp_loop_rounds 5 ?_
      (try rw [rounds_succ])
      go_wp2
      (try rw [rounds_succ])
      go_wp2
      go_ret
      refine ⟨by rw [HW.out]; rfl, ?_⟩
      (repeat (with_reducible first | exact Grow.grow_refl _ | refine Grow.grow_setCell ?_ ?_ _ | refine Grow.grow_alloc ?_ _ | refine Grow.grow_drewN ?_ _ | refine Grow.grow_drew ?_)) <;> (first | omega | (simp; done))
    · have hw : wideE ⟨low, high, fast, home⟩ = 2 := by simp [wideE, wide, hb0, hb1]
      have HW := Lib.hid hw
      clear hw hb0 hb1
      go_enter Tryd.func71, Tryd.ntmps71
      go_wp2
      refine wp_loop_rounds 5 ?_
      (try rw [rounds_succ])
      go_wp2
      (try rw [rounds_succ])
      go_wp2
      go_ret
      refine ⟨by rw [HW.out]; rfl, ?_⟩
      (repeat (with_reducible first | exact Grow.grow_refl _ | refine Grow.grow_setCell ?_ ?_ _ | refine Grow.grow_alloc ?_ _ | refine Grow.grow_drewN ?_ _ | refine Grow.grow_drew ?_)) <;> (first | omega | (simp; done))
    · skip
      rcases big_cases fast with ⟨A2, hb2⟩ | ⟨A2, B2, hb2⟩ | ⟨A2, B2, hb2⟩
      · have hw : wideE ⟨low, high, fast, home⟩ = 2 := by simp [wideE, wide, hb0, hb1, hb2]
        have HW := Lib.hid hw
        clear hw hb0 hb1 hb2
        go_enter Tryd.func71, Tryd.ntmps71
        go_wp2
        refine wp_loop_rounds 5 ?_
        (try rw [rounds_succ])
        go_wp2
        (try rw [rounds_succ])
        go_wp2
        (try rw [rounds_succ])
        go_wp2
        go_ret
        refine ⟨by rw [HW.out]; rfl, ?_⟩
        (repeat (with_reducible first | exact Grow.grow_refl _ | refine Grow.grow_setCell ?_ ?_ _ | refine Grow.grow_alloc ?_ _ | refine Grow.grow_drewN ?_ _ | refine Grow.grow_drew ?_)) <;> (first | omega | (simp; done))
      · have hw : wideE ⟨low, high, fast, home⟩ = 2 := by simp [wideE, wide, hb0, hb1, hb2]
        have HW := Lib.hid hw
        clear hw hb0 hb1 hb2
        go_enter Tryd.func71, Tryd.ntmps71
        go_wp2
        refine wp_loop_rounds 5 ?_
        (try rw [rounds_succ])
        go_wp2
        (try rw [rounds_succ])
        go_wp2
        (try rw [rounds_succ])
        go_wp2
        go_ret
        refine ⟨by rw [HW.out]; rfl, ?_⟩
        (repeat (with_reducible first | exact Grow.grow_refl _ | refine Grow.grow_setCell ?_ ?_ _ | refine Grow.grow_alloc ?_ _ | refine Grow.grow_drewN ?_ _ | refine Grow.grow_drew ?_)) <;> (first | omega | (simp; done))
      · skip
        rcases big_cases home with ⟨A3, hb3⟩ | ⟨A3, B3, hb3⟩ | ⟨A3, B3, hb3⟩
        · have hw : wideE ⟨low, high, fast, home⟩ = 2 := by simp [wideE, wide, hb0, hb1, hb2, hb3]
          have HW := Lib.hid hw
          clear hw hb0 hb1 hb2 hb3
          go_enter Tryd.func71, Tryd.ntmps71
          go_wp2
          refine wp_loop_rounds 5 ?_
          (try rw [rounds_succ])
          go_wp2
          (try rw [rounds_succ])
          go_wp2
          (try rw [rounds_succ])
          go_wp2
          (try rw [rounds_succ])
          go_wp2
          go_ret
          refine ⟨by rw [HW.out]; rfl, ?_⟩
          (repeat (with_reducible first | exact Grow.grow_refl _ | refine Grow.grow_setCell ?_ ?_ _ | refine Grow.grow_alloc ?_ _ | refine Grow.grow_drewN ?_ _ | refine Grow.grow_drew ?_)) <;> (first | omega | (simp; done))
        · have hw : wideE ⟨low, high, fast, home⟩ = 2 := by simp [wideE, wide, hb0, hb1, hb2, hb3]
          have HW := Lib.hid hw
          clear hw hb0 hb1 hb2 hb3
          go_enter Tryd.func71, Tryd.ntmps71
          go_wp2
          refine wp_loop_rounds 5 ?_
          (try rw [rounds_succ])
          go_wp2
          (try rw [rounds_succ])
          go_wp2
          (try rw [rounds_succ])
          go_wp2
          (try rw [rounds_succ])
          go_wp2
          go_ret
          refine ⟨by rw [HW.out]; rfl, ?_⟩
          (repeat (with_reducible first | exact Grow.grow_refl _ | refine Grow.grow_setCell ?_ ?_ _ | refine Grow.grow_alloc ?_ _ | refine Grow.grow_drewN ?_ _ | refine Grow.grow_drew ?_)) <;> (first | omega | (simp; done))
        · skip
          have hw : wideE ⟨low, high, fast, home⟩ = 0 := by simp [wideE, wide, hb0, hb1, hb2, hb3]
          have HW := Lib.hid hw
          clear hw hb0 hb1 hb2 hb3
          go_enter Tryd.func71, Tryd.ntmps71
          go_wp2
          refine wp_loop_rounds 5 ?_
          (try rw [rounds_succ])
          go_wp2
          (try rw [rounds_succ])
          go_wp2
          (try rw [rounds_succ])
          go_wp2
          (try rw [rounds_succ])
          go_wp2
          (try rw [rounds_succ])
          go_wp2
          go_ret
          refine ⟨by rw [HW.out]; rfl, ?_⟩
          (repeat (with_reducible first | exact Grow.grow_refl _ | refine Grow.grow_setCell ?_ ?_ _ | refine Grow.grow_alloc ?_ _ | refine Grow.grow_drewN ?_ _ | refine Grow.grow_drew ?_)) <;> (first | omega | (simp; done))

set_option maxRecDepth 100000 in
set_option maxHeartbeats 4000000 in
theorem limits_walk (l : Lim) (w : World) :
    Calls Tryd.prog 24 #[limV l] w fun e w' => e = .returned (limV l) ∧ Below w.heap.size w w' := by
  unfold limV
  go_enter Tryd.func24, Tryd.ntmps24
  go_wp2
  refine bodyPost_ret (v := .agg #[.int .i64 l.low, .int .i64 l.high, .int .i64 l.fast, .int .i64 l.home]) (by simp [results, Tryd.results24, go_sem]) rfl ⟨rfl, ?_⟩
  (repeat (with_reducible first | exact Grow.grow_refl _ | refine Grow.grow_setCell ?_ ?_ _ | refine Grow.grow_alloc ?_ _ | refine Grow.grow_drewN ?_ _ | refine Grow.grow_drew ?_)) <;> (first | omega | (simp; done))

set_option maxRecDepth 100000 in
set_option maxHeartbeats 4000000 in
theorem command_walk (n x y : Int) (c : ByteArray) (w : World) :
    Calls Tryd.prog 29 #[.agg #[.int .i64 n, .string c, .int .i64 x, .int .i64 y]] w fun e w' => e = .returned (.agg #[.int .i64 n, .string c, .int .i64 x, .int .i64 y]) ∧ Below w.heap.size w w' := by
  go_enter Tryd.func29, Tryd.ntmps29
  go_wp2
  refine bodyPost_ret (v := .agg #[.int .i64 n, .string c, .int .i64 x, .int .i64 y]) (by simp [results, Tryd.results29, go_sem]) rfl ⟨rfl, ?_⟩
  (repeat (with_reducible first | exact Grow.grow_refl _ | refine Grow.grow_setCell ?_ ?_ _ | refine Grow.grow_alloc ?_ _ | refine Grow.grow_drewN ?_ _ | refine Grow.grow_drew ?_)) <;> (first | omega | (simp; done))

def apartZ (x y : Int) : Int := if y < x then x - y else y - x
theorem apart_walk (x y : Int) (h1 : -1099511627776 ≤ x) (h2 : x ≤ 1099511627776) (h3 : -1099511627776 ≤ y) (h4 : y ≤ 1099511627776) (w : World) :
    Calls Tryd.prog 27 #[.int .i64 x, .int .i64 y] w fun e w' => e = .returned (.int .i64 (apartZ x y)) ∧ w = w' := by
  by_cases h : y < x
  all_goals
    go_enter Tryd.func27, Tryd.ntmps27
    go_wp2
    go_ret
    exact ⟨by unfold apartZ; first | (rw [if_pos h]; rfl) | (rw [if_neg (by omega)]; rfl), rfl⟩
theorem beyond_walk (l : Lim) (n : Int) (h1 : l.low ≤ n) (h2 : n ≤ l.high) (w : World) :
    Calls Tryd.prog 30 #[limV l, .int .i64 n] w fun e w' => e = .returned (.bool false) ∧ Below w.heap.size w w' := by
  unfold limV
  go_enter Tryd.func30, Tryd.ntmps30
  go_wp2
  go_ret
  refine ⟨?_, ?_⟩
  · simp
    omega
  · (repeat (with_reducible first | exact Grow.grow_refl _ | refine Grow.grow_setCell ?_ ?_ _ | refine Grow.grow_alloc ?_ _ | refine Grow.grow_drewN ?_ _ | refine Grow.grow_drew ?_)) <;> (first | omega | (simp; done))

end Go.Proofs.YtlfpfeidaohjmaaDoor
