/- The walks of the shares and of the pulls. -/
import Derived.Test.YtlfpfeidaohjmaaDoorBw1
import Derived.Test.YtlfpfeidaohjmaaDoorBw2
namespace Go.Proofs.YtlfpfeidaohjmaaDoor
open Go.RowKit

def shareZ (n q r : Int) : Int := (n * 1073741824).tdiv (q + 64) |>.tdiv (r + 8)

theorem tdiv_abs {a b : Int} {B : Int} (hb : 1 ≤ b) (h1 : -B ≤ a) (h2 : a ≤ B) : -B ≤ a.tdiv b ∧ a.tdiv b ≤ B := by
  rcases Int.le_total 0 a with h | h
  · have := Int.tdiv_nonneg h (by omega : 0 ≤ b)
    have := Int.tdiv_le_self b h
    omega
  · have e : a.tdiv b = -((-a).tdiv b) := by rw [Int.neg_tdiv]; omega
    have := Int.tdiv_nonneg (by omega : 0 ≤ -a) (by omega : 0 ≤ b)
    have := Int.tdiv_le_self b (by omega : 0 ≤ -a)
    omega

theorem shareZ_neg (n q r : Int) : shareZ (-n) q r = -shareZ n q r := by
  unfold shareZ; rw [Int.neg_mul, Int.neg_tdiv, Int.neg_tdiv]

set_option maxHeartbeats 1000000 in
theorem share_walk (n q r : Int) (hn : -2097152 ≤ n) (hn' : n ≤ 2097152) (hq : 0 ≤ q) (hq' : q ≤ 17592186044416) (hr : 0 ≤ r) (hr' : r ≤ 17592186044416) (w : World) :
    Calls Tryd.prog 149 #[.int .i64 n, .int .i64 q, .int .i64 r] w fun e w' => e = .returned (.int .i64 (shareZ n q r)) ∧ w' = w := by
  by_cases h : n < 0
  · obtain ⟨a1, a2⟩ := tdiv_abs (a := -n * 1073741824) (b := q + 64) (B := 2251799813685248) (by omega) (by omega) (by omega)
    obtain ⟨b1, b2⟩ := tdiv_abs (b := r + 8) (B := 2251799813685248) (by omega) a1 a2
    have e : shareZ n q r = -((-n * 1073741824).tdiv (q + 64)).tdiv (r + 8) := by
      have := shareZ_neg (-n) q r
      rw [Int.neg_neg] at this
      exact this
    have E := Lib.hid e
    clear e
    go_enter Tryd.func149, Tryd.ntmps149
    go_wp2
    go_ret
    exact ⟨ret_int (by rw [E.out]), rfl⟩
  · obtain ⟨a1, a2⟩ := tdiv_abs (a := n * 1073741824) (b := q + 64) (B := 2251799813685248) (by omega) (by omega) (by omega)
    obtain ⟨b1, b2⟩ := tdiv_abs (b := r + 8) (B := 2251799813685248) (by omega) a1 a2
    go_enter Tryd.func149, Tryd.ntmps149
    go_wp2
    go_ret
    exact ⟨ret_int (by unfold shareZ; rw [Int.tdiv_eq_ediv_of_nonneg (a := (n * 1073741824).tdiv (q + 64)) (Int.tdiv_nonneg (by omega) (by omega))]), rfl⟩

set_option maxHeartbeats 1000000 in
theorem pull1_walk (n q r : Int) (hn : -2097152 ≤ n) (hn' : n ≤ 2097152) (hq : 0 ≤ q) (hq' : q ≤ 17592186044416) (hr : 0 ≤ r) (hr' : r ≤ 17592186044416) (a b : Addr) (w : World)
    (ha : w.cell? a = some (.int .i64 q)) (hb : w.cell? b = some (.int .i64 r)) :
    Calls Tryd.prog 164 #[.int .i64 n, .pointer (some a), .pointer (some b)] w fun e w' => e = .returned (.int .i64 (shareZ n q r)) ∧ Below w.heap.size w w' := by
  obtain ⟨a1, a2⟩ := tdiv_abs (a := n * 1073741824) (b := q + 64) (B := 2251799813685248) (by omega) (by omega) (by omega)
  obtain ⟨b1, b2⟩ := tdiv_abs (b := r + 8) (B := 2251799813685248) (by omega) a1 a2
  go_enter Tryd.func164, Tryd.ntmps164
  go_wp2
  go_quiet (fail)
  go_wp2
  go_ret
  exact ⟨rfl, Grow.grow_drewN (Grow.grow_refl _) _⟩

theorem sq_bd {x : Int} (h : -2097152 ≤ x) (h' : x ≤ 2097152) : 0 ≤ x * x ∧ x * x ≤ 4398046511104 := by
  rcases Int.le_total 0 x with g | g
  · exact ⟨Int.mul_nonneg g g, Int.mul_le_mul h' h' g (by decide)⟩
  · rw [← Int.neg_mul_neg]
    exact ⟨Int.mul_nonneg (by omega) (by omega), Int.mul_le_mul (c := 2097152) (d := 2097152) (by omega) (by omega) (by omega) (by decide)⟩

def r2Z (x y z : Int) : Int := x * x + y * y + z * z
def pullZ (x y z n : Int) : Int := if insB x y z 2097152 then shareZ n (r2Z x y z) (isq (r2Z x y z).toNat) else 0

theorem insB_true {x y z m : Int} (h : insB x y z m = true) : -m ≤ x ∧ x ≤ m ∧ -m ≤ y ∧ y ≤ m ∧ -m ≤ z ∧ z ≤ m := by
  simp [insB] at h; omega

theorem isq_le {n : Nat} (h : n < 4611686018427387904) : isq n ≤ n := by
  have := (isq_root n h).1
  rcases Nat.eq_zero_or_pos (isq n) with e | e
  · omega
  · exact Nat.le_trans (Nat.le_mul_of_pos_left _ e) this

set_option maxHeartbeats 1000000 in
theorem pull_walk (x y z : Int) (w : World) :
    Calls Tryd.prog 141 #[.agg #[.int .i64 x, .int .i64 y, .int .i64 z]] w fun e w' => e = .returned (.agg #[.int .i64 (pullZ x y z x), .int .i64 (pullZ x y z y), .int .i64 (pullZ x y z z)]) ∧ Below w.heap.size w w' := by
  cases hb : insB x y z 2097152 with
  | false =>
    have hp : ∀ n, pullZ x y z n = 0 := fun n => by unfold pullZ; rw [hb]; rfl
    have HP := Lib.hid hp
    clear hp
    have HB := Lib.hid hb
    clear hb
    go_enter Tryd.func141, Tryd.ntmps141
    go_wp2_with (go_at_call 118; refine (within_walk _ _ _ _ (by omega) (by omega) _).mono ?_; rintro e w1 ⟨rfl, hb1⟩; obtain ⟨x1, rfl, hz1⟩ := Grow.grew hb1; clear hb1; (try simp only [World.size_alloc] at hz1); rw [HB.out])
    refine bodyPost_ret (v := .agg #[.int .i64 0, .int .i64 0, .int .i64 0]) (by simp [results, Tryd.results141, go_sem]) rfl ⟨?_, ?_⟩
    · rw [HP.out, HP.out, HP.out]
    · exact Grow.grow_setCell (Grow.grow_setCell (Grow.grow_setCell (Grow.grow_over (Grow.grow_alloc (Grow.grow_alloc (Grow.grow_refl _) _) _) _) (by simp) _) (by simp) _) (by simp) _
  | true =>
    obtain ⟨x1, x2, y1, y2, z1, z2⟩ := insB_true hb
    have hp : ∀ n, pullZ x y z n = shareZ n (r2Z x y z) (isq (r2Z x y z).toNat) := fun n => by unfold pullZ; rw [hb]; rfl
    have HP := Lib.hid hp
    clear hp
    have HB := Lib.hid hb
    clear hb
    obtain ⟨a1, a2⟩ := sq_bd x1 x2
    obtain ⟨b1, b2⟩ := sq_bd y1 y2
    obtain ⟨c1, c2⟩ := sq_bd z1 z2
    obtain ⟨q, hq⟩ : ∃ q : Nat, (q : Int) = r2Z x y z := ⟨(r2Z x y z).toNat, by unfold r2Z; omega⟩
    have hq2 : q ≤ 13194139533312 := by unfold r2Z at hq; omega
    have hi := isq_le (n := q) (by omega)
    have hw : wrap64 (wrap64 (wrap64 (x * x) + wrap64 (y * y)) + wrap64 (z * z)) = q := by
      rw [hq]; unfold r2Z; simp only [wrap64]; omega
    have hw2 : isq (r2Z x y z).toNat = isq q := by rw [← hq]; rfl
    have HQ := Lib.hid hq
    clear hq
    have HW := Lib.hid hw
    clear hw
    have HW2 := Lib.hid hw2
    clear hw2
    go_enter Tryd.func141, Tryd.ntmps141
    go_wp2_with (first
      | (go_at_call 118; refine (within_walk _ _ _ _ (by omega) (by omega) _).mono ?_; rintro e w1 ⟨rfl, hb1⟩; obtain ⟨x1, rfl, hz1⟩ := Grow.grew hb1; clear hb1; (try simp only [World.size_alloc] at hz1); rw [HB.out])
      | (go_at_call 87; refine (square_walk _ _ _ _).mono ?_; rintro e w1 ⟨rfl, hb1⟩; obtain ⟨x1, rfl, hz1⟩ := Grow.grew hb1; clear hb1; (try simp only [World.size_alloc] at hz1); rw [HW.out])
      | (go_at_call 163; refine (root_walk q (by omega) _).mono ?_; rintro e w1 ⟨rfl, rfl⟩))
    refine Grow.wp_region_over_tail 13 (by kernel_rfl) (by kernel_rfl) ?_
    simp only [List.take_succ_cons, List.take_zero, List.drop_succ_cons, List.drop_zero]
    repeat (go_big_quiet_step ((go_at_call 164; refine Calls.over_of (pull1_walk _ q (isq q) ?_ ?_ ?_ ?_ ?_ ?_ _ _ _ ?_ ?_) <;> first | omega | go_simp)))
    refine wpQuiet_nil ?_
    intro x9 hz9
    simp only [World.size_alloc] at hz9
    go_wp2
    refine bodyPost_ret (v := .agg #[.int .i64 (shareZ x q (isq q)), .int .i64 (shareZ y q (isq q)), .int .i64 (shareZ z q (isq q))]) (by simp [results, Tryd.results141, go_sem, ↓IntWalk.iteOmega]) rfl ⟨?_, ?_⟩
    · rw [HP.out, HP.out, HP.out, HW2.out, HQ.out]
    · repeat first
        | exact Grow.grow_refl _
        | refine Grow.grow_alloc ?_ _
        | refine Grow.grow_over ?_ _
        | refine Grow.grow_setCell ?_ (by simp) _

set_option maxHeartbeats 1000000 in
theorem pullOf_walk (x y z : Int) (w : World) :
    Calls Tryd.prog 125 #[.agg #[.int .i64 x, .int .i64 y, .int .i64 z]] w fun e w' => e = .returned (.agg #[.int .i64 (pullZ x y z x), .int .i64 (pullZ x y z y), .int .i64 (pullZ x y z z)]) ∧ Below w.heap.size w w' := by
  cases hb : insB x y z 2097152 with
  | false =>
    have hp : ∀ n, pullZ x y z n = 0 := fun n => by unfold pullZ; rw [hb]; rfl
    have HP := Lib.hid hp
    clear hp
    have HB := Lib.hid hb
    clear hb
    go_enter Tryd.func125, Tryd.ntmps125
    go_wp2_with (go_at_call 80; refine (inside_walk _ _ _ _ (by omega) (by omega) _).mono ?_; rintro e w1 ⟨rfl, hb1⟩; obtain ⟨x1, rfl, hz1⟩ := Grow.grew hb1; clear hb1; (try simp only [World.size_alloc] at hz1); rw [HB.out])
    refine bodyPost_ret (v := .agg #[.int .i64 0, .int .i64 0, .int .i64 0]) (by simp [results, Tryd.results125, go_sem]) rfl ⟨?_, ?_⟩
    · rw [HP.out, HP.out, HP.out]
    · exact Grow.grow_setCell (Grow.grow_setCell (Grow.grow_setCell (Grow.grow_over (Grow.grow_alloc (Grow.grow_alloc (Grow.grow_refl _) _) _) _) (by simp) _) (by simp) _) (by simp) _
  | true =>
    obtain ⟨x1, x2, y1, y2, z1, z2⟩ := insB_true hb
    have hp : ∀ n, pullZ x y z n = shareZ n (r2Z x y z) (isq (r2Z x y z).toNat) := fun n => by unfold pullZ; rw [hb]; rfl
    have HP := Lib.hid hp
    clear hp
    have HB := Lib.hid hb
    clear hb
    obtain ⟨a1, a2⟩ := sq_bd x1 x2
    obtain ⟨b1, b2⟩ := sq_bd y1 y2
    obtain ⟨c1, c2⟩ := sq_bd z1 z2
    obtain ⟨q, hq⟩ : ∃ q : Nat, (q : Int) = r2Z x y z := ⟨(r2Z x y z).toNat, by unfold r2Z; omega⟩
    have hq2 : q ≤ 13194139533312 := by unfold r2Z at hq; omega
    have hi := isq_le (n := q) (by omega)
    have hw : wrap64 (wrap64 (wrap64 (x * x) + wrap64 (y * y)) + wrap64 (z * z)) = q := by
      rw [hq]; unfold r2Z; simp only [wrap64]; omega
    have hw2 : isq (r2Z x y z).toNat = isq q := by rw [← hq]; rfl
    have HQ := Lib.hid hq
    clear hq
    have HW := Lib.hid hw
    clear hw
    have HW2 := Lib.hid hw2
    clear hw2
    go_enter Tryd.func125, Tryd.ntmps125
    go_wp2_with (first
      | (go_at_call 80; refine (inside_walk _ _ _ _ (by omega) (by omega) _).mono ?_; rintro e w1 ⟨rfl, hb1⟩; obtain ⟨x1, rfl, hz1⟩ := Grow.grew hb1; clear hb1; (try simp only [World.size_alloc] at hz1); rw [HB.out])
      | (go_at_call 40; refine (squareOf_walk _ _ _ _).mono ?_; rintro e w1 ⟨rfl, hb1⟩; obtain ⟨x1, rfl, hz1⟩ := Grow.grew hb1; clear hb1; (try simp only [World.size_alloc] at hz1); rw [HW.out])
      | (go_at_call 148; refine (rootOf_walk q _).mono ?_; rintro e w1 ⟨rfl, rfl⟩))
    refine Grow.wp_region_over_tail 16 (by kernel_rfl) (by kernel_rfl) ?_
    simp only [List.take_succ_cons, List.take_zero, List.drop_succ_cons, List.drop_zero]
    repeat (go_big_quiet_step ((go_at_call 149; refine Calls.over_of ((share_walk _ q (isq q) ?_ ?_ ?_ ?_ ?_ ?_ _).mono fun e w' h => ⟨h.1, h.2 ▸ Grow.grow_refl _⟩) <;> omega)))
    refine wpQuiet_nil ?_
    intro x9 hz9
    go_wp2
    refine bodyPost_ret (v := .agg #[.int .i64 (shareZ x q (isq q)), .int .i64 (shareZ y q (isq q)), .int .i64 (shareZ z q (isq q))]) (by simp [results, Tryd.results125, go_sem, ↓IntWalk.iteOmega]) rfl ⟨?_, ?_⟩
    · rw [HP.out, HP.out, HP.out, HW2.out, HQ.out]
    · repeat first
        | exact Grow.grow_refl _
        | refine Grow.grow_alloc ?_ _
        | refine Grow.grow_over ?_ _
        | refine Grow.grow_setCell ?_ (by simp) _

end Go.Proofs.YtlfpfeidaohjmaaDoor
