/- Whether a shift is proved. -/
import Derived.Test.YtaakbajhbmbhcaaDoorSx5
import Derived.Test.YtaakbajhbmbhcaaDoorCs5
import Derived.Deep.QuietTactic
import Derived.BigQuiet
set_option linter.unusedSimpArgs false
set_option linter.unusedVariables false
namespace Go.Proofs.YtaakbajhbmbhcaaDoor
open Go.RowKit Go.Grow

set_option maxRecDepth 100000 in
set_option maxHeartbeats 8000000 in
theorem proved_no (a : Nat → Addr) (r1 r2 : Option Addr) (n m cap1 cap2 : Nat) (s : Int) (x y : Nat → Int) (w : World) (hn : n ≤ 9223372036854775807) (hm : m ≤ 9223372036854775807) (hs : Sen a [2, 5] w) (h1 : IntsAt w r1 n x) (h2 : IntsAt w r2 m y) (hE : rowsE n m x y ≠ 0) :
    Calls Tryd.prog 22 #[.slice r1 n cap1, .slice r2 m cap2, .int .i64 s] w fun e w' => e = .returned (.tuple #[.bool false, errV a (rowsE n m x y)]) ∧ Below w.heap.size w w' := by
  have RW := Lib.hid (cross_no a r1 r2 n m cap1 cap2 x y w hn hm hs h1 h2 hE)
  obtain ⟨u, hu⟩ := errV_pos2 a hE
  rw [hu] at RW ⊢
  clear h1 h2 hE hs hu
  go_enter Tryd.func22, Tryd.ntmps22
  go_wp2_with (go_at_call 21; (with_reducible refine RW.out.mono ?_); rintro e w1 ⟨rfl, hb⟩; have HB := Lib.hid hb; clear hb)
  go_ret2
  exact ⟨rfl, HB.out⟩
/-- Is no shift better? -/
def bestB (z : Nat → Int) (n : Nat) (s : Int) : Bool := decide (0 ≤ s) && decide (s ≤ n) && decide (z s.toNat = maxUp z n)
set_option maxRecDepth 100000 in
set_option maxHeartbeats 8000000 in
theorem proved_yes (a : Nat → Addr) (r1 r2 : Option Addr) (n cap1 cap2 : Nat) (s : Int) (x y : Nat → Int) (w : World) (hs : Sen a [2, 5] w) (h1 : IntsAt w r1 (n + 1) x) (h2 : IntsAt w r2 (n + 1) y) (hE : rowsE (n + 1) (n + 1) x y = 0) :
    Calls Tryd.prog 22 #[.slice r1 (n + 1) cap1, .slice r2 (n + 1) cap2, .int .i64 s] w fun e w' => e = .returned (.tuple #[.bool (bestB (crossZ x y (n + 1)) n s), .nilIface]) ∧ Below w.heap.size w w' := by
  obtain ⟨_, hn, _⟩ := rowsE_yes hE
  have RW := Lib.hid (cross_yes a r1 r2 (n + 1) cap1 cap2 x y w hs h1 h2 hE hn (by omega))
  clear h1 h2 hE hs
  obtain ⟨z, hz⟩ : ∃ z, crossZ x y (n + 1) = z := ⟨_, rfl⟩
  unfold CrossYes at RW
  rw [hz] at RW ⊢
  clear hz
  have MW := Lib.hid (fun g X (h : IRow X g (n + 1) z) => max_walk _ n (n + 1) z X (by omega) h.ints)
  rcases Int.lt_or_le s 0 with hs0 | hs0
  · have d0 : decide (0 ≤ s) = false := decide_eq_false (by omega)
    have E := Lib.hid (show bestB z n s = false by unfold bestB; rw [d0]; rfl)
    rw [E.out]
    go_enter Tryd.func22, Tryd.ntmps22
    go_wp2_with (go_at_call 21; (with_reducible refine RW.out.mono ?_); rintro e w1 ⟨g, rfl, hg, hr, hb⟩; have HB := Lib.hid hb; have R := Lib.hid hr; clear hb hr)
    go_quiet (fail)
    go_wp2
    go_ret2
    exact ⟨rfl, grow_drewN HB.out _⟩
  · obtain ⟨i, rfl⟩ : ∃ i : Nat, (i : Int) = s := ⟨s.toNat, by omega⟩
    have d0 : decide ((0 : Int) ≤ (i : Int)) = true := decide_eq_true (by omega)
    rcases Nat.lt_or_ge n i with hs1 | hs1
    · have d1 : decide ((i : Int) ≤ (n : Int)) = false := decide_eq_false (by omega)
      have d2 : decide ((i : Int) < (n : Int) + 1) = false := decide_eq_false (by omega)
      have E := Lib.hid (show bestB z n i = false by unfold bestB; rw [d1]; simp)
      rw [E.out]
      clear d1
      go_enter Tryd.func22, Tryd.ntmps22
      go_wp2_with (go_at_call 21; (with_reducible refine RW.out.mono ?_); rintro e w1 ⟨g, rfl, hg, hr, hb⟩; have HB := Lib.hid hb; have R := Lib.hid hr; clear hb hr)
      go_quiet (fail)
      go_wp2
      go_ret2
      exact ⟨rfl, grow_drewN HB.out _⟩
    · have d2 : decide ((i : Int) < (n : Int) + 1) = true := decide_eq_true (by omega)
      have hi0 : (0 : Int) ≤ (i : Int) := by omega
      have hi1 : (i : Int) < (n : Int) + 1 := by omega
      have E := Lib.hid (show bestB z n i = (z i == maxUp z n) by
        unfold bestB; rw [d0, decide_eq_true (show (i : Int) ≤ (n : Int) by omega)]; rw [Bool.eq_iff_iff]; simp)
      rw [E.out]
      have hin : i < n + 1 := by omega
      clear E
      obtain ⟨t, ht⟩ : ∃ t, (z i == maxUp z n) = t := ⟨_, rfl⟩
      rw [ht]
      have HZ := Lib.hid (fun g X (h : IRow X g (n + 1) z) => h.cell i hin)
      generalize z i = u at ht HZ
      generalize maxUp z n = mx at ht MW
      go_enter Tryd.func22, Tryd.ntmps22
      go_wp2_with (go_at_call 21; (with_reducible refine RW.out.mono ?_); rintro e w1 ⟨g, rfl, hg, hr, hb⟩; have HB := Lib.hid hb; have R := Lib.hid hr; have c1 := HZ.out g w1 hr; clear hb hr)
      go_quiet ((go_at_call 41; refine Calls.quiet_of_same ((MW.out g _ (R.out.below (grow_drewN (grow_refl _) _))).mono fun e w' h => ⟨h.1, h.2.symm⟩)))
      go_wp2
      go_ret2
      exact ⟨rfl, grow_drewN HB.out _⟩
end Go.Proofs.YtaakbajhbmbhcaaDoor
