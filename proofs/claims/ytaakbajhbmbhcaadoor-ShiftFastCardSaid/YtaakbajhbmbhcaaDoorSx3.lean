/- The program's test of two rows. -/
import Derived.Test.YtaakbajhbmbhcaaDoorSx2
set_option linter.unusedSimpArgs false
set_option linter.unusedVariables false
namespace Go.Proofs.YtaakbajhbmbhcaaDoor
open Go.RowKit Go.Grow

set_option maxRecDepth 100000 in
set_option maxHeartbeats 8000000 in
theorem rows_far (a : Nat → Addr) (r1 r2 : Option Addr) (n m cap1 cap2 : Nat) (w : World) (hn : n ≤ 9223372036854775807) (hm : m ≤ 9223372036854775807) (hs : Sen a [2, 5] w) (h : 256 < n ∨ 256 < m) :
    Calls Tryd.prog 42 #[.slice r1 n cap1, .slice r2 m cap2] w fun e w' => e = .returned (errV a 2) ∧ Below w.heap.size w w' := by
  have HE := Lib.hid (errV_pos a (show 2 ≠ 0 by decide))
  have c2 := (hs 2 (by decide)).1
  have l2 := (hs.lt (k := 2) (by decide)).1
  simp only [gOf] at c2 l2
  clear hs
  rw [HE.out]
  by_cases h1 : 256 < n
  · clear h
    go_enter Tryd.func42, Tryd.ntmps42
    go_wp2
    go_ret
    exact ⟨rfl, Below.refl _ _⟩
  · have h2 : 256 < m := by omega
    clear h
    go_enter Tryd.func42, Tryd.ntmps42
    go_wp2
    go_ret
    exact ⟨rfl, Below.refl _ _⟩
set_option maxRecDepth 100000 in
set_option maxHeartbeats 8000000 in
theorem rows_odd (a : Nat → Addr) (r1 r2 : Option Addr) (n m cap1 cap2 : Nat) (w : World) (hs : Sen a [2, 5] w) (hn : n ≤ 256) (hm : m ≤ 256) (h : n = 0 ∨ n ≠ m) :
    Calls Tryd.prog 42 #[.slice r1 n cap1, .slice r2 m cap2] w fun e w' => e = .returned (errV a 5) ∧ Below w.heap.size w w' := by
  have HE := Lib.hid (errV_pos a (show 5 ≠ 0 by decide))
  have c2 := (hs 5 (by decide)).1
  have l2 := (hs.lt (k := 5) (by decide)).1
  simp only [gOf] at c2 l2
  clear hs
  rw [HE.out]
  by_cases h1 : n = 0
  · subst h1
    clear h
    go_enter Tryd.func42, Tryd.ntmps42
    go_wp2
    go_ret
    exact ⟨rfl, Below.refl _ _⟩
  · have h2 : n ≠ m := by omega
    clear h
    have d0 : ((n : Int) == 0) = false := by simp; omega
    have d1 : ((n : Int) != (m : Int)) = true := by simp; omega
    clear h1 h2
    go_enter Tryd.func42, Tryd.ntmps42
    go_wp2
    go_ret
    exact ⟨rfl, Below.refl _ _⟩
set_option maxRecDepth 100000 in
set_option maxHeartbeats 8000000 in
theorem rows_in (a : Nat → Addr) (r1 r2 : Option Addr) (n cap1 cap2 : Nat) (x y : Nat → Int) (w : World) (hs : Sen a [2, 5] w) (hn : n ≤ 256) (h0 : n ≠ 0) (h1 : IntsAt w r1 n x) (h2 : IntsAt w r2 n y) :
    Calls Tryd.prog 42 #[.slice r1 n cap1, .slice r2 n cap2] w fun e w' => e = .returned (errV a (if anyZ farB x n || anyZ farB y n then 2 else 0)) ∧ Below w.heap.size w w' := by
  have HE := Lib.hid (errV_pos a (show 2 ≠ 0 by decide))
  have c2 := (hs 2 (by decide)).1
  have l2 := (hs.lt (k := 2) (by decide)).1
  simp only [gOf] at c2 l2
  clear hs
  have HA := Lib.hid (fun X (hX : Below w.heap.size w X) => has_rows1 r1 n cap1 x X (by omega) (h1.below hX))
  have HB := Lib.hid (fun X (hX : Below w.heap.size w X) => has_rows1 r2 n cap2 y X (by omega) (h2.below hX))
  clear h1 h2
  have d0 : ((n : Int) == 0) = false := by simp; omega
  have d1 : ((n : Int) != (n : Int)) = false := by simp
  clear h0
  cases ha : anyZ farB x n with
  | true =>
    have HA2 := HA
    rw [ha] at HA2
    rw [show (if true || anyZ farB y n then 2 else 0) = 2 from rfl, HE.out]
    clear ha HA HB
    go_enter Tryd.func42, Tryd.ntmps42
    go_wp2
    refine wp_loop_rounds 3 ?_
    rw [rounds_succ]
    go_wp2_with (go_at_call 53; (with_reducible refine (HA2.out _ (grow_alloc (grow_refl w) _)).mono ?_); rintro e w1 ⟨rfl, rfl⟩)
    go_ret
    exact ⟨rfl, grow_alloc (grow_refl w) _⟩
  | false =>
    have HA2 := HA
    rw [ha] at HA2
    clear ha HA
    cases hb : anyZ farB y n with
    | true =>
      have HB2 := HB
      rw [hb] at HB2
      rw [show (if false || true then 2 else 0) = 2 from rfl, HE.out]
      clear hb HB
      have s0 := trivial
      go_enter Tryd.func42, Tryd.ntmps42
      go_wp2
      refine wp_loop_rounds 3 ?_
      rw [rounds_succ]
      go_wp2_with (go_at_call 53; (with_reducible refine (HA2.out _ (grow_alloc (grow_refl w) _)).mono ?_); rintro e w1 ⟨rfl, rfl⟩)
      rw [rounds_succ]
      go_wp2_with (go_at_call 53; (with_reducible refine (HB2.out _ (grow_alloc (grow_refl w) _)).mono ?_); rintro e w1 ⟨rfl, rfl⟩)
      go_ret
      exact ⟨rfl, grow_alloc (grow_refl w) _⟩
    | false =>
      have HB2 := HB
      rw [hb] at HB2
      rw [show (if false || false then 2 else 0) = 0 from rfl, errV_zero]
      clear hb HB
      go_enter Tryd.func42, Tryd.ntmps42
      go_wp2
      refine wp_loop_rounds 3 ?_
      rw [rounds_succ]
      go_wp2_with (go_at_call 53; (with_reducible refine (HA2.out _ (grow_alloc (grow_refl w) _)).mono ?_); rintro e w1 ⟨rfl, rfl⟩)
      rw [rounds_succ]
      go_wp2_with (go_at_call 53; (with_reducible refine (HB2.out _ (grow_alloc (grow_refl w) _)).mono ?_); rintro e w1 ⟨rfl, rfl⟩)
      rw [rounds_succ]
      go_wp2
      go_ret
      exact ⟨rfl, grow_alloc (grow_refl w) _⟩
theorem rows_walk (a : Nat → Addr) (r1 r2 : Option Addr) (n m cap1 cap2 : Nat) (x y : Nat → Int) (w : World) (hn : n ≤ 9223372036854775807) (hm : m ≤ 9223372036854775807) (hs : Sen a [2, 5] w) (h1 : IntsAt w r1 n x) (h2 : IntsAt w r2 m y) :
    Calls Tryd.prog 42 #[.slice r1 n cap1, .slice r2 m cap2] w fun e w' => e = .returned (errV a (rowsE n m x y)) ∧ Below w.heap.size w w' := by
  unfold rowsE
  by_cases h : 256 < n ∨ 256 < m
  · rw [if_pos h]; exact rows_far a r1 r2 n m cap1 cap2 w hn hm hs h
  · rw [if_neg h]
    by_cases h0 : n = 0 ∨ n ≠ m
    · rw [if_pos h0]; exact rows_odd a r1 r2 n m cap1 cap2 w hs (by omega) (by omega) h0
    · rw [if_neg h0]
      obtain rfl : n = m := by omega
      exact rows_in a r1 r2 n cap1 cap2 x y w hs (by omega) (by omega) h1 h2
end Go.Proofs.YtaakbajhbmbhcaaDoor
