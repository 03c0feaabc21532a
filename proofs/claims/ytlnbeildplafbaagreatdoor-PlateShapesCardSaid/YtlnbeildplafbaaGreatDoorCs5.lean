/- plain.Code at nil and at each of the program's sentinels. -/
import Derived.Test.YtlnbeildplafbaaGreatDoorSen
import Derived.Test.YtlnbeildplafbaaGreatDoorIs
import Derived.Test.YtlnbeildplafbaaGreatDoorKno
set_option linter.unusedSimpArgs false
set_option linter.unusedVariables false
namespace Go.Proofs.YtlnbeildplafbaaGreatDoor
open Go.RowKit Go.Grow

theorem as_any (e t : Addr) (w : World) (hg : Hand w) : Calls Tryz.prog 70 #[.iface 353 (.pointer (some e)), .iface 122 (.pointer (some t))] w fun ev w' => ev = .returned (.bool false) ∧ Below w.heap.size w w' := as_miss e t w hg

theorem code_nil (w : World) : Calls Tryz.prog 33 #[.nilIface] w fun e w' => e = .returned (.tuple #[.int .i64 0, .int .i64 (-1)]) ∧ Below w.heap.size w w' := by
  go_enter Tryz.func33, Tryz.ntmps33
  go_wp2
  go_ret2
  exact ⟨rfl, grow_refl _⟩

theorem is_oth {a : Nat → Addr} {ks : List Nat} {w0 : World} (hs : Sen a ks w0) (j k : Nat) (hj : j ∈ ks) (hk : k ∈ ks) (hne : a j ≠ a k) (w : World) (hb : Below w0.heap.size w0 w) :
    Calls Tryz.prog 71 #[.iface 353 (.pointer (some (a j))), .iface 353 (.pointer (some (a k)))] w fun e w' => e = .returned (.bool false) ∧ w = w' := by
  have h := hs.below hb
  obtain ⟨_, c1, t1, h1⟩ := h j hj
  obtain ⟨_, c2, t2, h2⟩ := h k hk
  exact is_other (a j) (a k) c1 c2 t1 t2 w hne h1 h2
def allK : List Nat := [1, 2, 3, 4, 5, 6, 7, 8, 9, 10]

set_option maxHeartbeats 4000000 in
theorem code_1 (a : Nat → Addr) (w : World) (hs : Sen a allK w) (hh : Hand w) (hne : ∀ j ∈ allK, ∀ k ∈ allK, j ≠ k → a j ≠ a k) :
    Calls Tryz.prog 33 #[.iface 353 (.pointer (some (a 1)))] w fun e w' => e = .returned (.tuple #[.int .i64 1, .int .i64 (-1)]) ∧ Below w.heap.size w w' := by
  have HS := Lib.hid hs
  have HN := Lib.hid hne
  have c1 := (hs 1 (by decide)).1
  have l1 := (hs.lt (k := 1) (by decide)).1
  simp only [gOf] at c1 l1
  have c2 := (hs 2 (by decide)).1
  have l2 := (hs.lt (k := 2) (by decide)).1
  simp only [gOf] at c2 l2
  have c3 := (hs 3 (by decide)).1
  have l3 := (hs.lt (k := 3) (by decide)).1
  simp only [gOf] at c3 l3
  have c4 := (hs 4 (by decide)).1
  have l4 := (hs.lt (k := 4) (by decide)).1
  simp only [gOf] at c4 l4
  have c5 := (hs 5 (by decide)).1
  have l5 := (hs.lt (k := 5) (by decide)).1
  simp only [gOf] at c5 l5
  have c6 := (hs 6 (by decide)).1
  have l6 := (hs.lt (k := 6) (by decide)).1
  simp only [gOf] at c6 l6
  have c7 := (hs 7 (by decide)).1
  have l7 := (hs.lt (k := 7) (by decide)).1
  simp only [gOf] at c7 l7
  have c8 := (hs 8 (by decide)).1
  have l8 := (hs.lt (k := 8) (by decide)).1
  simp only [gOf] at c8 l8
  have c9 := (hs 9 (by decide)).1
  have l9 := (hs.lt (k := 9) (by decide)).1
  simp only [gOf] at c9 l9
  have c10 := (hs 10 (by decide)).1
  have l10 := (hs.lt (k := 10) (by decide)).1
  simp only [gOf] at c10 l10
  clear hs hne
  have HH := Lib.hid hh
  clear hh
  go_enter Tryz.func33, Tryz.ntmps33
  go_wp2_with (go_at_call 70; refine (as_any _ _ _ (HH.out.below (grow_alloc (grow_refl _) _))).mono ?_; rintro e w1 ⟨rfl, hB⟩; have HB := Lib.hid (grow_trans (grow_alloc (grow_refl w) _) hB); obtain ⟨hc1, hf1, hz1⟩ := facts hB; clear hB; (try simp only [World.size_alloc] at hc1 hf1 hz1))
  have s0 := trivial
  refine wp_loop_rounds 10 ?_
  rw [rounds_succ]
  go_wp2_with (go_at_call 71; refine (is_same _ _).mono ?_; rintro e w2 ⟨rfl, rfl⟩)
  go_ret2
  exact ⟨rfl, grow_alloc HB.out _⟩

set_option maxHeartbeats 4000000 in
theorem code_2 (a : Nat → Addr) (w : World) (hs : Sen a allK w) (hh : Hand w) (hne : ∀ j ∈ allK, ∀ k ∈ allK, j ≠ k → a j ≠ a k) :
    Calls Tryz.prog 33 #[.iface 353 (.pointer (some (a 2)))] w fun e w' => e = .returned (.tuple #[.int .i64 2, .int .i64 (-1)]) ∧ Below w.heap.size w w' := by
  have HS := Lib.hid hs
  have HN := Lib.hid hne
  have c1 := (hs 1 (by decide)).1
  have l1 := (hs.lt (k := 1) (by decide)).1
  simp only [gOf] at c1 l1
  have c2 := (hs 2 (by decide)).1
  have l2 := (hs.lt (k := 2) (by decide)).1
  simp only [gOf] at c2 l2
  have c3 := (hs 3 (by decide)).1
  have l3 := (hs.lt (k := 3) (by decide)).1
  simp only [gOf] at c3 l3
  have c4 := (hs 4 (by decide)).1
  have l4 := (hs.lt (k := 4) (by decide)).1
  simp only [gOf] at c4 l4
  have c5 := (hs 5 (by decide)).1
  have l5 := (hs.lt (k := 5) (by decide)).1
  simp only [gOf] at c5 l5
  have c6 := (hs 6 (by decide)).1
  have l6 := (hs.lt (k := 6) (by decide)).1
  simp only [gOf] at c6 l6
  have c7 := (hs 7 (by decide)).1
  have l7 := (hs.lt (k := 7) (by decide)).1
  simp only [gOf] at c7 l7
  have c8 := (hs 8 (by decide)).1
  have l8 := (hs.lt (k := 8) (by decide)).1
  simp only [gOf] at c8 l8
  have c9 := (hs 9 (by decide)).1
  have l9 := (hs.lt (k := 9) (by decide)).1
  simp only [gOf] at c9 l9
  have c10 := (hs 10 (by decide)).1
  have l10 := (hs.lt (k := 10) (by decide)).1
  simp only [gOf] at c10 l10
  clear hs hne
  have HH := Lib.hid hh
  clear hh
  go_enter Tryz.func33, Tryz.ntmps33
  go_wp2_with (go_at_call 70; refine (as_any _ _ _ (HH.out.below (grow_alloc (grow_refl _) _))).mono ?_; rintro e w1 ⟨rfl, hB⟩; have HB := Lib.hid (grow_trans (grow_alloc (grow_refl w) _) hB); obtain ⟨hc1, hf1, hz1⟩ := facts hB; clear hB; (try simp only [World.size_alloc] at hc1 hf1 hz1))
  have s0 := trivial
  refine wp_loop_rounds 10 ?_
  rw [rounds_succ]
  go_wp2_with (go_at_call 71; refine (is_oth HS.out 2 1 (by decide) (by decide) (HN.out _ (by decide) _ (by decide) (by decide)) _ (grow_alloc HB.out _)).mono ?_; rintro e w2 ⟨rfl, rfl⟩)
  rw [rounds_succ]
  go_wp2_with (go_at_call 71; refine (is_same _ _).mono ?_; rintro e w2 ⟨rfl, rfl⟩)
  go_ret2
  exact ⟨rfl, grow_alloc HB.out _⟩

set_option maxHeartbeats 4000000 in
theorem code_3 (a : Nat → Addr) (w : World) (hs : Sen a allK w) (hh : Hand w) (hne : ∀ j ∈ allK, ∀ k ∈ allK, j ≠ k → a j ≠ a k) :
    Calls Tryz.prog 33 #[.iface 353 (.pointer (some (a 3)))] w fun e w' => e = .returned (.tuple #[.int .i64 3, .int .i64 (-1)]) ∧ Below w.heap.size w w' := by
  have HS := Lib.hid hs
  have HN := Lib.hid hne
  have c1 := (hs 1 (by decide)).1
  have l1 := (hs.lt (k := 1) (by decide)).1
  simp only [gOf] at c1 l1
  have c2 := (hs 2 (by decide)).1
  have l2 := (hs.lt (k := 2) (by decide)).1
  simp only [gOf] at c2 l2
  have c3 := (hs 3 (by decide)).1
  have l3 := (hs.lt (k := 3) (by decide)).1
  simp only [gOf] at c3 l3
  have c4 := (hs 4 (by decide)).1
  have l4 := (hs.lt (k := 4) (by decide)).1
  simp only [gOf] at c4 l4
  have c5 := (hs 5 (by decide)).1
  have l5 := (hs.lt (k := 5) (by decide)).1
  simp only [gOf] at c5 l5
  have c6 := (hs 6 (by decide)).1
  have l6 := (hs.lt (k := 6) (by decide)).1
  simp only [gOf] at c6 l6
  have c7 := (hs 7 (by decide)).1
  have l7 := (hs.lt (k := 7) (by decide)).1
  simp only [gOf] at c7 l7
  have c8 := (hs 8 (by decide)).1
  have l8 := (hs.lt (k := 8) (by decide)).1
  simp only [gOf] at c8 l8
  have c9 := (hs 9 (by decide)).1
  have l9 := (hs.lt (k := 9) (by decide)).1
  simp only [gOf] at c9 l9
  have c10 := (hs 10 (by decide)).1
  have l10 := (hs.lt (k := 10) (by decide)).1
  simp only [gOf] at c10 l10
  clear hs hne
  have HH := Lib.hid hh
  clear hh
  go_enter Tryz.func33, Tryz.ntmps33
  go_wp2_with (go_at_call 70; refine (as_any _ _ _ (HH.out.below (grow_alloc (grow_refl _) _))).mono ?_; rintro e w1 ⟨rfl, hB⟩; have HB := Lib.hid (grow_trans (grow_alloc (grow_refl w) _) hB); obtain ⟨hc1, hf1, hz1⟩ := facts hB; clear hB; (try simp only [World.size_alloc] at hc1 hf1 hz1))
  have s0 := trivial
  refine wp_loop_rounds 10 ?_
  rw [rounds_succ]
  go_wp2_with (go_at_call 71; refine (is_oth HS.out 3 1 (by decide) (by decide) (HN.out _ (by decide) _ (by decide) (by decide)) _ (grow_alloc HB.out _)).mono ?_; rintro e w2 ⟨rfl, rfl⟩)
  rw [rounds_succ]
  go_wp2_with (go_at_call 71; refine (is_oth HS.out 3 2 (by decide) (by decide) (HN.out _ (by decide) _ (by decide) (by decide)) _ (grow_alloc HB.out _)).mono ?_; rintro e w2 ⟨rfl, rfl⟩)
  rw [rounds_succ]
  go_wp2_with (go_at_call 71; refine (is_same _ _).mono ?_; rintro e w2 ⟨rfl, rfl⟩)
  go_ret2
  exact ⟨rfl, grow_alloc HB.out _⟩

set_option maxHeartbeats 4000000 in
theorem code_4 (a : Nat → Addr) (w : World) (hs : Sen a allK w) (hh : Hand w) (hne : ∀ j ∈ allK, ∀ k ∈ allK, j ≠ k → a j ≠ a k) :
    Calls Tryz.prog 33 #[.iface 353 (.pointer (some (a 4)))] w fun e w' => e = .returned (.tuple #[.int .i64 4, .int .i64 (-1)]) ∧ Below w.heap.size w w' := by
  have HS := Lib.hid hs
  have HN := Lib.hid hne
  have c1 := (hs 1 (by decide)).1
  have l1 := (hs.lt (k := 1) (by decide)).1
  simp only [gOf] at c1 l1
  have c2 := (hs 2 (by decide)).1
  have l2 := (hs.lt (k := 2) (by decide)).1
  simp only [gOf] at c2 l2
  have c3 := (hs 3 (by decide)).1
  have l3 := (hs.lt (k := 3) (by decide)).1
  simp only [gOf] at c3 l3
  have c4 := (hs 4 (by decide)).1
  have l4 := (hs.lt (k := 4) (by decide)).1
  simp only [gOf] at c4 l4
  have c5 := (hs 5 (by decide)).1
  have l5 := (hs.lt (k := 5) (by decide)).1
  simp only [gOf] at c5 l5
  have c6 := (hs 6 (by decide)).1
  have l6 := (hs.lt (k := 6) (by decide)).1
  simp only [gOf] at c6 l6
  have c7 := (hs 7 (by decide)).1
  have l7 := (hs.lt (k := 7) (by decide)).1
  simp only [gOf] at c7 l7
  have c8 := (hs 8 (by decide)).1
  have l8 := (hs.lt (k := 8) (by decide)).1
  simp only [gOf] at c8 l8
  have c9 := (hs 9 (by decide)).1
  have l9 := (hs.lt (k := 9) (by decide)).1
  simp only [gOf] at c9 l9
  have c10 := (hs 10 (by decide)).1
  have l10 := (hs.lt (k := 10) (by decide)).1
  simp only [gOf] at c10 l10
  clear hs hne
  have HH := Lib.hid hh
  clear hh
  go_enter Tryz.func33, Tryz.ntmps33
  go_wp2_with (go_at_call 70; refine (as_any _ _ _ (HH.out.below (grow_alloc (grow_refl _) _))).mono ?_; rintro e w1 ⟨rfl, hB⟩; have HB := Lib.hid (grow_trans (grow_alloc (grow_refl w) _) hB); obtain ⟨hc1, hf1, hz1⟩ := facts hB; clear hB; (try simp only [World.size_alloc] at hc1 hf1 hz1))
  have s0 := trivial
  refine wp_loop_rounds 10 ?_
  rw [rounds_succ]
  go_wp2_with (go_at_call 71; refine (is_oth HS.out 4 1 (by decide) (by decide) (HN.out _ (by decide) _ (by decide) (by decide)) _ (grow_alloc HB.out _)).mono ?_; rintro e w2 ⟨rfl, rfl⟩)
  rw [rounds_succ]
  go_wp2_with (go_at_call 71; refine (is_oth HS.out 4 2 (by decide) (by decide) (HN.out _ (by decide) _ (by decide) (by decide)) _ (grow_alloc HB.out _)).mono ?_; rintro e w2 ⟨rfl, rfl⟩)
  rw [rounds_succ]
  go_wp2_with (go_at_call 71; refine (is_oth HS.out 4 3 (by decide) (by decide) (HN.out _ (by decide) _ (by decide) (by decide)) _ (grow_alloc HB.out _)).mono ?_; rintro e w2 ⟨rfl, rfl⟩)
  rw [rounds_succ]
  go_wp2_with (go_at_call 71; refine (is_same _ _).mono ?_; rintro e w2 ⟨rfl, rfl⟩)
  go_ret2
  exact ⟨rfl, grow_alloc HB.out _⟩

set_option maxHeartbeats 4000000 in
theorem code_5 (a : Nat → Addr) (w : World) (hs : Sen a allK w) (hh : Hand w) (hne : ∀ j ∈ allK, ∀ k ∈ allK, j ≠ k → a j ≠ a k) :
    Calls Tryz.prog 33 #[.iface 353 (.pointer (some (a 5)))] w fun e w' => e = .returned (.tuple #[.int .i64 5, .int .i64 (-1)]) ∧ Below w.heap.size w w' := by
  have HS := Lib.hid hs
  have HN := Lib.hid hne
  have c1 := (hs 1 (by decide)).1
  have l1 := (hs.lt (k := 1) (by decide)).1
  simp only [gOf] at c1 l1
  have c2 := (hs 2 (by decide)).1
  have l2 := (hs.lt (k := 2) (by decide)).1
  simp only [gOf] at c2 l2
  have c3 := (hs 3 (by decide)).1
  have l3 := (hs.lt (k := 3) (by decide)).1
  simp only [gOf] at c3 l3
  have c4 := (hs 4 (by decide)).1
  have l4 := (hs.lt (k := 4) (by decide)).1
  simp only [gOf] at c4 l4
  have c5 := (hs 5 (by decide)).1
  have l5 := (hs.lt (k := 5) (by decide)).1
  simp only [gOf] at c5 l5
  have c6 := (hs 6 (by decide)).1
  have l6 := (hs.lt (k := 6) (by decide)).1
  simp only [gOf] at c6 l6
  have c7 := (hs 7 (by decide)).1
  have l7 := (hs.lt (k := 7) (by decide)).1
  simp only [gOf] at c7 l7
  have c8 := (hs 8 (by decide)).1
  have l8 := (hs.lt (k := 8) (by decide)).1
  simp only [gOf] at c8 l8
  have c9 := (hs 9 (by decide)).1
  have l9 := (hs.lt (k := 9) (by decide)).1
  simp only [gOf] at c9 l9
  have c10 := (hs 10 (by decide)).1
  have l10 := (hs.lt (k := 10) (by decide)).1
  simp only [gOf] at c10 l10
  clear hs hne
  have HH := Lib.hid hh
  clear hh
  go_enter Tryz.func33, Tryz.ntmps33
  go_wp2_with (go_at_call 70; refine (as_any _ _ _ (HH.out.below (grow_alloc (grow_refl _) _))).mono ?_; rintro e w1 ⟨rfl, hB⟩; have HB := Lib.hid (grow_trans (grow_alloc (grow_refl w) _) hB); obtain ⟨hc1, hf1, hz1⟩ := facts hB; clear hB; (try simp only [World.size_alloc] at hc1 hf1 hz1))
  have s0 := trivial
  refine wp_loop_rounds 10 ?_
  rw [rounds_succ]
  go_wp2_with (go_at_call 71; refine (is_oth HS.out 5 1 (by decide) (by decide) (HN.out _ (by decide) _ (by decide) (by decide)) _ (grow_alloc HB.out _)).mono ?_; rintro e w2 ⟨rfl, rfl⟩)
  rw [rounds_succ]
  go_wp2_with (go_at_call 71; refine (is_oth HS.out 5 2 (by decide) (by decide) (HN.out _ (by decide) _ (by decide) (by decide)) _ (grow_alloc HB.out _)).mono ?_; rintro e w2 ⟨rfl, rfl⟩)
  rw [rounds_succ]
  go_wp2_with (go_at_call 71; refine (is_oth HS.out 5 3 (by decide) (by decide) (HN.out _ (by decide) _ (by decide) (by decide)) _ (grow_alloc HB.out _)).mono ?_; rintro e w2 ⟨rfl, rfl⟩)
  rw [rounds_succ]
  go_wp2_with (go_at_call 71; refine (is_oth HS.out 5 4 (by decide) (by decide) (HN.out _ (by decide) _ (by decide) (by decide)) _ (grow_alloc HB.out _)).mono ?_; rintro e w2 ⟨rfl, rfl⟩)
  rw [rounds_succ]
  go_wp2_with (go_at_call 71; refine (is_same _ _).mono ?_; rintro e w2 ⟨rfl, rfl⟩)
  go_ret2
  exact ⟨rfl, grow_alloc HB.out _⟩

set_option maxHeartbeats 4000000 in
theorem code_6 (a : Nat → Addr) (w : World) (hs : Sen a allK w) (hh : Hand w) (hne : ∀ j ∈ allK, ∀ k ∈ allK, j ≠ k → a j ≠ a k) :
    Calls Tryz.prog 33 #[.iface 353 (.pointer (some (a 6)))] w fun e w' => e = .returned (.tuple #[.int .i64 6, .int .i64 (-1)]) ∧ Below w.heap.size w w' := by
  have HS := Lib.hid hs
  have HN := Lib.hid hne
  have c1 := (hs 1 (by decide)).1
  have l1 := (hs.lt (k := 1) (by decide)).1
  simp only [gOf] at c1 l1
  have c2 := (hs 2 (by decide)).1
  have l2 := (hs.lt (k := 2) (by decide)).1
  simp only [gOf] at c2 l2
  have c3 := (hs 3 (by decide)).1
  have l3 := (hs.lt (k := 3) (by decide)).1
  simp only [gOf] at c3 l3
  have c4 := (hs 4 (by decide)).1
  have l4 := (hs.lt (k := 4) (by decide)).1
  simp only [gOf] at c4 l4
  have c5 := (hs 5 (by decide)).1
  have l5 := (hs.lt (k := 5) (by decide)).1
  simp only [gOf] at c5 l5
  have c6 := (hs 6 (by decide)).1
  have l6 := (hs.lt (k := 6) (by decide)).1
  simp only [gOf] at c6 l6
  have c7 := (hs 7 (by decide)).1
  have l7 := (hs.lt (k := 7) (by decide)).1
  simp only [gOf] at c7 l7
  have c8 := (hs 8 (by decide)).1
  have l8 := (hs.lt (k := 8) (by decide)).1
  simp only [gOf] at c8 l8
  have c9 := (hs 9 (by decide)).1
  have l9 := (hs.lt (k := 9) (by decide)).1
  simp only [gOf] at c9 l9
  have c10 := (hs 10 (by decide)).1
  have l10 := (hs.lt (k := 10) (by decide)).1
  simp only [gOf] at c10 l10
  clear hs hne
  have HH := Lib.hid hh
  clear hh
  go_enter Tryz.func33, Tryz.ntmps33
  go_wp2_with (go_at_call 70; refine (as_any _ _ _ (HH.out.below (grow_alloc (grow_refl _) _))).mono ?_; rintro e w1 ⟨rfl, hB⟩; have HB := Lib.hid (grow_trans (grow_alloc (grow_refl w) _) hB); obtain ⟨hc1, hf1, hz1⟩ := facts hB; clear hB; (try simp only [World.size_alloc] at hc1 hf1 hz1))
  have s0 := trivial
  refine wp_loop_rounds 10 ?_
  rw [rounds_succ]
  go_wp2_with (go_at_call 71; refine (is_oth HS.out 6 1 (by decide) (by decide) (HN.out _ (by decide) _ (by decide) (by decide)) _ (grow_alloc HB.out _)).mono ?_; rintro e w2 ⟨rfl, rfl⟩)
  rw [rounds_succ]
  go_wp2_with (go_at_call 71; refine (is_oth HS.out 6 2 (by decide) (by decide) (HN.out _ (by decide) _ (by decide) (by decide)) _ (grow_alloc HB.out _)).mono ?_; rintro e w2 ⟨rfl, rfl⟩)
  rw [rounds_succ]
  go_wp2_with (go_at_call 71; refine (is_oth HS.out 6 3 (by decide) (by decide) (HN.out _ (by decide) _ (by decide) (by decide)) _ (grow_alloc HB.out _)).mono ?_; rintro e w2 ⟨rfl, rfl⟩)
  rw [rounds_succ]
  go_wp2_with (go_at_call 71; refine (is_oth HS.out 6 4 (by decide) (by decide) (HN.out _ (by decide) _ (by decide) (by decide)) _ (grow_alloc HB.out _)).mono ?_; rintro e w2 ⟨rfl, rfl⟩)
  rw [rounds_succ]
  go_wp2_with (go_at_call 71; refine (is_oth HS.out 6 5 (by decide) (by decide) (HN.out _ (by decide) _ (by decide) (by decide)) _ (grow_alloc HB.out _)).mono ?_; rintro e w2 ⟨rfl, rfl⟩)
  rw [rounds_succ]
  go_wp2_with (go_at_call 71; refine (is_same _ _).mono ?_; rintro e w2 ⟨rfl, rfl⟩)
  go_ret2
  exact ⟨rfl, grow_alloc HB.out _⟩

set_option maxHeartbeats 4000000 in
theorem code_7 (a : Nat → Addr) (w : World) (hs : Sen a allK w) (hh : Hand w) (hne : ∀ j ∈ allK, ∀ k ∈ allK, j ≠ k → a j ≠ a k) :
    Calls Tryz.prog 33 #[.iface 353 (.pointer (some (a 7)))] w fun e w' => e = .returned (.tuple #[.int .i64 7, .int .i64 (-1)]) ∧ Below w.heap.size w w' := by
  have HS := Lib.hid hs
  have HN := Lib.hid hne
  have c1 := (hs 1 (by decide)).1
  have l1 := (hs.lt (k := 1) (by decide)).1
  simp only [gOf] at c1 l1
  have c2 := (hs 2 (by decide)).1
  have l2 := (hs.lt (k := 2) (by decide)).1
  simp only [gOf] at c2 l2
  have c3 := (hs 3 (by decide)).1
  have l3 := (hs.lt (k := 3) (by decide)).1
  simp only [gOf] at c3 l3
  have c4 := (hs 4 (by decide)).1
  have l4 := (hs.lt (k := 4) (by decide)).1
  simp only [gOf] at c4 l4
  have c5 := (hs 5 (by decide)).1
  have l5 := (hs.lt (k := 5) (by decide)).1
  simp only [gOf] at c5 l5
  have c6 := (hs 6 (by decide)).1
  have l6 := (hs.lt (k := 6) (by decide)).1
  simp only [gOf] at c6 l6
  have c7 := (hs 7 (by decide)).1
  have l7 := (hs.lt (k := 7) (by decide)).1
  simp only [gOf] at c7 l7
  have c8 := (hs 8 (by decide)).1
  have l8 := (hs.lt (k := 8) (by decide)).1
  simp only [gOf] at c8 l8
  have c9 := (hs 9 (by decide)).1
  have l9 := (hs.lt (k := 9) (by decide)).1
  simp only [gOf] at c9 l9
  have c10 := (hs 10 (by decide)).1
  have l10 := (hs.lt (k := 10) (by decide)).1
  simp only [gOf] at c10 l10
  clear hs hne
  have HH := Lib.hid hh
  clear hh
  go_enter Tryz.func33, Tryz.ntmps33
  go_wp2_with (go_at_call 70; refine (as_any _ _ _ (HH.out.below (grow_alloc (grow_refl _) _))).mono ?_; rintro e w1 ⟨rfl, hB⟩; have HB := Lib.hid (grow_trans (grow_alloc (grow_refl w) _) hB); obtain ⟨hc1, hf1, hz1⟩ := facts hB; clear hB; (try simp only [World.size_alloc] at hc1 hf1 hz1))
  have s0 := trivial
  refine wp_loop_rounds 10 ?_
  rw [rounds_succ]
  go_wp2_with (go_at_call 71; refine (is_oth HS.out 7 1 (by decide) (by decide) (HN.out _ (by decide) _ (by decide) (by decide)) _ (grow_alloc HB.out _)).mono ?_; rintro e w2 ⟨rfl, rfl⟩)
  rw [rounds_succ]
  go_wp2_with (go_at_call 71; refine (is_oth HS.out 7 2 (by decide) (by decide) (HN.out _ (by decide) _ (by decide) (by decide)) _ (grow_alloc HB.out _)).mono ?_; rintro e w2 ⟨rfl, rfl⟩)
  rw [rounds_succ]
  go_wp2_with (go_at_call 71; refine (is_oth HS.out 7 3 (by decide) (by decide) (HN.out _ (by decide) _ (by decide) (by decide)) _ (grow_alloc HB.out _)).mono ?_; rintro e w2 ⟨rfl, rfl⟩)
  rw [rounds_succ]
  go_wp2_with (go_at_call 71; refine (is_oth HS.out 7 4 (by decide) (by decide) (HN.out _ (by decide) _ (by decide) (by decide)) _ (grow_alloc HB.out _)).mono ?_; rintro e w2 ⟨rfl, rfl⟩)
  rw [rounds_succ]
  go_wp2_with (go_at_call 71; refine (is_oth HS.out 7 5 (by decide) (by decide) (HN.out _ (by decide) _ (by decide) (by decide)) _ (grow_alloc HB.out _)).mono ?_; rintro e w2 ⟨rfl, rfl⟩)
  rw [rounds_succ]
  go_wp2_with (go_at_call 71; refine (is_oth HS.out 7 6 (by decide) (by decide) (HN.out _ (by decide) _ (by decide) (by decide)) _ (grow_alloc HB.out _)).mono ?_; rintro e w2 ⟨rfl, rfl⟩)
  rw [rounds_succ]
  go_wp2_with (go_at_call 71; refine (is_same _ _).mono ?_; rintro e w2 ⟨rfl, rfl⟩)
  go_ret2
  exact ⟨rfl, grow_alloc HB.out _⟩

set_option maxHeartbeats 4000000 in
theorem code_8 (a : Nat → Addr) (w : World) (hs : Sen a allK w) (hh : Hand w) (hne : ∀ j ∈ allK, ∀ k ∈ allK, j ≠ k → a j ≠ a k) :
    Calls Tryz.prog 33 #[.iface 353 (.pointer (some (a 8)))] w fun e w' => e = .returned (.tuple #[.int .i64 8, .int .i64 (-1)]) ∧ Below w.heap.size w w' := by
  have HS := Lib.hid hs
  have HN := Lib.hid hne
  have c1 := (hs 1 (by decide)).1
  have l1 := (hs.lt (k := 1) (by decide)).1
  simp only [gOf] at c1 l1
  have c2 := (hs 2 (by decide)).1
  have l2 := (hs.lt (k := 2) (by decide)).1
  simp only [gOf] at c2 l2
  have c3 := (hs 3 (by decide)).1
  have l3 := (hs.lt (k := 3) (by decide)).1
  simp only [gOf] at c3 l3
  have c4 := (hs 4 (by decide)).1
  have l4 := (hs.lt (k := 4) (by decide)).1
  simp only [gOf] at c4 l4
  have c5 := (hs 5 (by decide)).1
  have l5 := (hs.lt (k := 5) (by decide)).1
  simp only [gOf] at c5 l5
  have c6 := (hs 6 (by decide)).1
  have l6 := (hs.lt (k := 6) (by decide)).1
  simp only [gOf] at c6 l6
  have c7 := (hs 7 (by decide)).1
  have l7 := (hs.lt (k := 7) (by decide)).1
  simp only [gOf] at c7 l7
  have c8 := (hs 8 (by decide)).1
  have l8 := (hs.lt (k := 8) (by decide)).1
  simp only [gOf] at c8 l8
  have c9 := (hs 9 (by decide)).1
  have l9 := (hs.lt (k := 9) (by decide)).1
  simp only [gOf] at c9 l9
  have c10 := (hs 10 (by decide)).1
  have l10 := (hs.lt (k := 10) (by decide)).1
  simp only [gOf] at c10 l10
  clear hs hne
  have HH := Lib.hid hh
  clear hh
  go_enter Tryz.func33, Tryz.ntmps33
  go_wp2_with (go_at_call 70; refine (as_any _ _ _ (HH.out.below (grow_alloc (grow_refl _) _))).mono ?_; rintro e w1 ⟨rfl, hB⟩; have HB := Lib.hid (grow_trans (grow_alloc (grow_refl w) _) hB); obtain ⟨hc1, hf1, hz1⟩ := facts hB; clear hB; (try simp only [World.size_alloc] at hc1 hf1 hz1))
  have s0 := trivial
  refine wp_loop_rounds 10 ?_
  rw [rounds_succ]
  go_wp2_with (go_at_call 71; refine (is_oth HS.out 8 1 (by decide) (by decide) (HN.out _ (by decide) _ (by decide) (by decide)) _ (grow_alloc HB.out _)).mono ?_; rintro e w2 ⟨rfl, rfl⟩)
  rw [rounds_succ]
  go_wp2_with (go_at_call 71; refine (is_oth HS.out 8 2 (by decide) (by decide) (HN.out _ (by decide) _ (by decide) (by decide)) _ (grow_alloc HB.out _)).mono ?_; rintro e w2 ⟨rfl, rfl⟩)
  rw [rounds_succ]
  go_wp2_with (go_at_call 71; refine (is_oth HS.out 8 3 (by decide) (by decide) (HN.out _ (by decide) _ (by decide) (by decide)) _ (grow_alloc HB.out _)).mono ?_; rintro e w2 ⟨rfl, rfl⟩)
  rw [rounds_succ]
  go_wp2_with (go_at_call 71; refine (is_oth HS.out 8 4 (by decide) (by decide) (HN.out _ (by decide) _ (by decide) (by decide)) _ (grow_alloc HB.out _)).mono ?_; rintro e w2 ⟨rfl, rfl⟩)
  rw [rounds_succ]
  go_wp2_with (go_at_call 71; refine (is_oth HS.out 8 5 (by decide) (by decide) (HN.out _ (by decide) _ (by decide) (by decide)) _ (grow_alloc HB.out _)).mono ?_; rintro e w2 ⟨rfl, rfl⟩)
  rw [rounds_succ]
  go_wp2_with (go_at_call 71; refine (is_oth HS.out 8 6 (by decide) (by decide) (HN.out _ (by decide) _ (by decide) (by decide)) _ (grow_alloc HB.out _)).mono ?_; rintro e w2 ⟨rfl, rfl⟩)
  rw [rounds_succ]
  go_wp2_with (go_at_call 71; refine (is_oth HS.out 8 7 (by decide) (by decide) (HN.out _ (by decide) _ (by decide) (by decide)) _ (grow_alloc HB.out _)).mono ?_; rintro e w2 ⟨rfl, rfl⟩)
  rw [rounds_succ]
  go_wp2_with (go_at_call 71; refine (is_same _ _).mono ?_; rintro e w2 ⟨rfl, rfl⟩)
  go_ret2
  exact ⟨rfl, grow_alloc HB.out _⟩

set_option maxHeartbeats 4000000 in
theorem code_9 (a : Nat → Addr) (w : World) (hs : Sen a allK w) (hh : Hand w) (hne : ∀ j ∈ allK, ∀ k ∈ allK, j ≠ k → a j ≠ a k) :
    Calls Tryz.prog 33 #[.iface 353 (.pointer (some (a 9)))] w fun e w' => e = .returned (.tuple #[.int .i64 9, .int .i64 (-1)]) ∧ Below w.heap.size w w' := by
  have HS := Lib.hid hs
  have HN := Lib.hid hne
  have c1 := (hs 1 (by decide)).1
  have l1 := (hs.lt (k := 1) (by decide)).1
  simp only [gOf] at c1 l1
  have c2 := (hs 2 (by decide)).1
  have l2 := (hs.lt (k := 2) (by decide)).1
  simp only [gOf] at c2 l2
  have c3 := (hs 3 (by decide)).1
  have l3 := (hs.lt (k := 3) (by decide)).1
  simp only [gOf] at c3 l3
  have c4 := (hs 4 (by decide)).1
  have l4 := (hs.lt (k := 4) (by decide)).1
  simp only [gOf] at c4 l4
  have c5 := (hs 5 (by decide)).1
  have l5 := (hs.lt (k := 5) (by decide)).1
  simp only [gOf] at c5 l5
  have c6 := (hs 6 (by decide)).1
  have l6 := (hs.lt (k := 6) (by decide)).1
  simp only [gOf] at c6 l6
  have c7 := (hs 7 (by decide)).1
  have l7 := (hs.lt (k := 7) (by decide)).1
  simp only [gOf] at c7 l7
  have c8 := (hs 8 (by decide)).1
  have l8 := (hs.lt (k := 8) (by decide)).1
  simp only [gOf] at c8 l8
  have c9 := (hs 9 (by decide)).1
  have l9 := (hs.lt (k := 9) (by decide)).1
  simp only [gOf] at c9 l9
  have c10 := (hs 10 (by decide)).1
  have l10 := (hs.lt (k := 10) (by decide)).1
  simp only [gOf] at c10 l10
  clear hs hne
  have HH := Lib.hid hh
  clear hh
  go_enter Tryz.func33, Tryz.ntmps33
  go_wp2_with (go_at_call 70; refine (as_any _ _ _ (HH.out.below (grow_alloc (grow_refl _) _))).mono ?_; rintro e w1 ⟨rfl, hB⟩; have HB := Lib.hid (grow_trans (grow_alloc (grow_refl w) _) hB); obtain ⟨hc1, hf1, hz1⟩ := facts hB; clear hB; (try simp only [World.size_alloc] at hc1 hf1 hz1))
  have s0 := trivial
  refine wp_loop_rounds 10 ?_
  rw [rounds_succ]
  go_wp2_with (go_at_call 71; refine (is_oth HS.out 9 1 (by decide) (by decide) (HN.out _ (by decide) _ (by decide) (by decide)) _ (grow_alloc HB.out _)).mono ?_; rintro e w2 ⟨rfl, rfl⟩)
  rw [rounds_succ]
  go_wp2_with (go_at_call 71; refine (is_oth HS.out 9 2 (by decide) (by decide) (HN.out _ (by decide) _ (by decide) (by decide)) _ (grow_alloc HB.out _)).mono ?_; rintro e w2 ⟨rfl, rfl⟩)
  rw [rounds_succ]
  go_wp2_with (go_at_call 71; refine (is_oth HS.out 9 3 (by decide) (by decide) (HN.out _ (by decide) _ (by decide) (by decide)) _ (grow_alloc HB.out _)).mono ?_; rintro e w2 ⟨rfl, rfl⟩)
  rw [rounds_succ]
  go_wp2_with (go_at_call 71; refine (is_oth HS.out 9 4 (by decide) (by decide) (HN.out _ (by decide) _ (by decide) (by decide)) _ (grow_alloc HB.out _)).mono ?_; rintro e w2 ⟨rfl, rfl⟩)
  rw [rounds_succ]
  go_wp2_with (go_at_call 71; refine (is_oth HS.out 9 5 (by decide) (by decide) (HN.out _ (by decide) _ (by decide) (by decide)) _ (grow_alloc HB.out _)).mono ?_; rintro e w2 ⟨rfl, rfl⟩)
  rw [rounds_succ]
  go_wp2_with (go_at_call 71; refine (is_oth HS.out 9 6 (by decide) (by decide) (HN.out _ (by decide) _ (by decide) (by decide)) _ (grow_alloc HB.out _)).mono ?_; rintro e w2 ⟨rfl, rfl⟩)
  rw [rounds_succ]
  go_wp2_with (go_at_call 71; refine (is_oth HS.out 9 7 (by decide) (by decide) (HN.out _ (by decide) _ (by decide) (by decide)) _ (grow_alloc HB.out _)).mono ?_; rintro e w2 ⟨rfl, rfl⟩)
  rw [rounds_succ]
  go_wp2_with (go_at_call 71; refine (is_oth HS.out 9 8 (by decide) (by decide) (HN.out _ (by decide) _ (by decide) (by decide)) _ (grow_alloc HB.out _)).mono ?_; rintro e w2 ⟨rfl, rfl⟩)
  rw [rounds_succ]
  go_wp2_with (go_at_call 71; refine (is_same _ _).mono ?_; rintro e w2 ⟨rfl, rfl⟩)
  go_ret2
  exact ⟨rfl, grow_alloc HB.out _⟩

set_option maxHeartbeats 4000000 in
theorem code_10 (a : Nat → Addr) (w : World) (hs : Sen a allK w) (hh : Hand w) (hne : ∀ j ∈ allK, ∀ k ∈ allK, j ≠ k → a j ≠ a k) :
    Calls Tryz.prog 33 #[.iface 353 (.pointer (some (a 10)))] w fun e w' => e = .returned (.tuple #[.int .i64 10, .int .i64 (-1)]) ∧ Below w.heap.size w w' := by
  have HS := Lib.hid hs
  have HN := Lib.hid hne
  have c1 := (hs 1 (by decide)).1
  have l1 := (hs.lt (k := 1) (by decide)).1
  simp only [gOf] at c1 l1
  have c2 := (hs 2 (by decide)).1
  have l2 := (hs.lt (k := 2) (by decide)).1
  simp only [gOf] at c2 l2
  have c3 := (hs 3 (by decide)).1
  have l3 := (hs.lt (k := 3) (by decide)).1
  simp only [gOf] at c3 l3
  have c4 := (hs 4 (by decide)).1
  have l4 := (hs.lt (k := 4) (by decide)).1
  simp only [gOf] at c4 l4
  have c5 := (hs 5 (by decide)).1
  have l5 := (hs.lt (k := 5) (by decide)).1
  simp only [gOf] at c5 l5
  have c6 := (hs 6 (by decide)).1
  have l6 := (hs.lt (k := 6) (by decide)).1
  simp only [gOf] at c6 l6
  have c7 := (hs 7 (by decide)).1
  have l7 := (hs.lt (k := 7) (by decide)).1
  simp only [gOf] at c7 l7
  have c8 := (hs 8 (by decide)).1
  have l8 := (hs.lt (k := 8) (by decide)).1
  simp only [gOf] at c8 l8
  have c9 := (hs 9 (by decide)).1
  have l9 := (hs.lt (k := 9) (by decide)).1
  simp only [gOf] at c9 l9
  have c10 := (hs 10 (by decide)).1
  have l10 := (hs.lt (k := 10) (by decide)).1
  simp only [gOf] at c10 l10
  clear hs hne
  have HH := Lib.hid hh
  clear hh
  go_enter Tryz.func33, Tryz.ntmps33
  go_wp2_with (go_at_call 70; refine (as_any _ _ _ (HH.out.below (grow_alloc (grow_refl _) _))).mono ?_; rintro e w1 ⟨rfl, hB⟩; have HB := Lib.hid (grow_trans (grow_alloc (grow_refl w) _) hB); obtain ⟨hc1, hf1, hz1⟩ := facts hB; clear hB; (try simp only [World.size_alloc] at hc1 hf1 hz1))
  have s0 := trivial
  refine wp_loop_rounds 10 ?_
  rw [rounds_succ]
  go_wp2_with (go_at_call 71; refine (is_oth HS.out 10 1 (by decide) (by decide) (HN.out _ (by decide) _ (by decide) (by decide)) _ (grow_alloc HB.out _)).mono ?_; rintro e w2 ⟨rfl, rfl⟩)
  rw [rounds_succ]
  go_wp2_with (go_at_call 71; refine (is_oth HS.out 10 2 (by decide) (by decide) (HN.out _ (by decide) _ (by decide) (by decide)) _ (grow_alloc HB.out _)).mono ?_; rintro e w2 ⟨rfl, rfl⟩)
  rw [rounds_succ]
  go_wp2_with (go_at_call 71; refine (is_oth HS.out 10 3 (by decide) (by decide) (HN.out _ (by decide) _ (by decide) (by decide)) _ (grow_alloc HB.out _)).mono ?_; rintro e w2 ⟨rfl, rfl⟩)
  rw [rounds_succ]
  go_wp2_with (go_at_call 71; refine (is_oth HS.out 10 4 (by decide) (by decide) (HN.out _ (by decide) _ (by decide) (by decide)) _ (grow_alloc HB.out _)).mono ?_; rintro e w2 ⟨rfl, rfl⟩)
  rw [rounds_succ]
  go_wp2_with (go_at_call 71; refine (is_oth HS.out 10 5 (by decide) (by decide) (HN.out _ (by decide) _ (by decide) (by decide)) _ (grow_alloc HB.out _)).mono ?_; rintro e w2 ⟨rfl, rfl⟩)
  rw [rounds_succ]
  go_wp2_with (go_at_call 71; refine (is_oth HS.out 10 6 (by decide) (by decide) (HN.out _ (by decide) _ (by decide) (by decide)) _ (grow_alloc HB.out _)).mono ?_; rintro e w2 ⟨rfl, rfl⟩)
  rw [rounds_succ]
  go_wp2_with (go_at_call 71; refine (is_oth HS.out 10 7 (by decide) (by decide) (HN.out _ (by decide) _ (by decide) (by decide)) _ (grow_alloc HB.out _)).mono ?_; rintro e w2 ⟨rfl, rfl⟩)
  rw [rounds_succ]
  go_wp2_with (go_at_call 71; refine (is_oth HS.out 10 8 (by decide) (by decide) (HN.out _ (by decide) _ (by decide) (by decide)) _ (grow_alloc HB.out _)).mono ?_; rintro e w2 ⟨rfl, rfl⟩)
  rw [rounds_succ]
  go_wp2_with (go_at_call 71; refine (is_oth HS.out 10 9 (by decide) (by decide) (HN.out _ (by decide) _ (by decide) (by decide)) _ (grow_alloc HB.out _)).mono ?_; rintro e w2 ⟨rfl, rfl⟩)
  rw [rounds_succ]
  go_wp2_with (go_at_call 71; refine (is_same _ _).mono ?_; rintro e w2 ⟨rfl, rfl⟩)
  go_ret2
  exact ⟨rfl, grow_alloc HB.out _⟩

/-- plain.Code at the error of number k. -/
theorem code_any (a : Nat → Addr) (k : Nat) (hk : k ≤ 10) (w : World) (hs : Sen a allK w) (hh : Hand w) (hne : ∀ j ∈ allK, ∀ k ∈ allK, j ≠ k → a j ≠ a k) :
    Calls Tryz.prog 33 #[errV a k] w fun e w' => e = .returned (.tuple #[.int .i64 k, .int .i64 (-1)]) ∧ Below w.heap.size w w' := by
  have : k = 0 ∨ k = 1 ∨ k = 2 ∨ k = 3 ∨ k = 4 ∨ k = 5 ∨ k = 6 ∨ k = 7 ∨ k = 8 ∨ k = 9 ∨ k = 10 := by omega
  rcases this with rfl | rfl | rfl | rfl | rfl | rfl | rfl | rfl | rfl | rfl | rfl
  · exact code_nil w
  · exact code_1 a w hs hh hne
  · exact code_2 a w hs hh hne
  · exact code_3 a w hs hh hne
  · exact code_4 a w hs hh hne
  · exact code_5 a w hs hh hne
  · exact code_6 a w hs hh hne
  · exact code_7 a w hs hh hne
  · exact code_8 a w hs hh hne
  · exact code_9 a w hs hh hne
  · exact code_10 a w hs hh hne
end Go.Proofs.YtlnbeildplafbaaGreatDoor
/- The law's own look at an error: each sentinel has its number. -/
set_option linter.unusedSimpArgs false
set_option linter.unusedVariables false
namespace Go.Proofs.YtlnbeildplafbaaGreatDoor
open Go.RowKit Go.Grow

theorem errV_or (a : Nat → Addr) (k : Nat) : errV a k = .nilIface ∨ ∃ u, errV a k = .iface 353 u := by
  unfold errV; split
  · exact .inl rfl
  · exact .inr ⟨_, rfl⟩
set_option maxRecDepth 100000 in
set_option maxHeartbeats 4000000 in
/-- An error, and its number. -/
theorem coded_same (a : Nat → Addr) (k : Nat) (hk : k ≤ 10) (w : World) (hs : Sen a allK w) (hh : Hand w) (hne : ∀ j ∈ allK, ∀ k ∈ allK, j ≠ k → a j ≠ a k) :
    Calls Tryz.prog 12 #[errV a k, .int .i64 k] w fun e w' => e = .returned (.bool true) ∧ Below w.heap.size w w' := by
  have C := Lib.hid (code_any a k hk w hs hh hne)
  clear hs hh hne
  rcases errV_or a k with hE | ⟨u, hE⟩
  all_goals
    rw [hE] at C ⊢
    clear hE
    go_enter Tryz.func12, Tryz.ntmps12
    go_wp2_with (go_at_call 33; (with_reducible refine C.out.mono ?_); rintro e w1 ⟨rfl, hB⟩; have HB := Lib.hid hB; clear hB)
    go_ret
    exact ⟨by simp, HB.out⟩
end Go.Proofs.YtlnbeildplafbaaGreatDoor
