/- The document's test of two rows; the best shift; whether a shift is proved. -/
import Derived.Test.YtaakbajhbmbhcaaDoorSx4
import Derived.Test.YtaakbajhbmbhcaaDoorCs5
import Derived.Deep.QuietTactic
import Derived.BigQuiet
set_option linter.unusedSimpArgs false
set_option linter.unusedVariables false
namespace Go.Proofs.YtaakbajhbmbhcaaDoor
open Go.RowKit Go.Grow

set_option maxRecDepth 100000 in
set_option maxHeartbeats 8000000 in
theorem rowsError_far (r1 r2 : Option Addr) (n m cap1 cap2 : Nat) (w : World) (hn : n ≤ 9223372036854775807) (hm : m ≤ 9223372036854775807) (h : 256 < n ∨ 256 < m) :
    Calls Tryd.prog 23 #[.slice r1 n cap1, .slice r2 m cap2] w fun e w' => e = .returned (.int .i64 2) ∧ w = w' := by
  by_cases h1 : 256 < n
  · clear h
    go_enter Tryd.func23, Tryd.ntmps23
    go_wp2
    go_ret
    exact ⟨rfl, rfl⟩
  · have h2 : 256 < m := by omega
    clear h
    go_enter Tryd.func23, Tryd.ntmps23
    go_wp2
    go_ret
    exact ⟨rfl, rfl⟩
set_option maxRecDepth 100000 in
set_option maxHeartbeats 8000000 in
theorem rowsError_odd (r1 r2 : Option Addr) (n m cap1 cap2 : Nat) (w : World) (hn : n ≤ 256) (hm : m ≤ 256) (h : n = 0 ∨ n ≠ m) :
    Calls Tryd.prog 23 #[.slice r1 n cap1, .slice r2 m cap2] w fun e w' => e = .returned (.int .i64 5) ∧ w = w' := by
  by_cases h1 : n = 0
  · subst h1
    clear h
    go_enter Tryd.func23, Tryd.ntmps23
    go_wp2
    go_ret
    exact ⟨rfl, rfl⟩
  · have h2 : n ≠ m := by omega
    clear h
    have d0 : ((n : Int) == 0) = false := by simp; omega
    have d1 : ((n : Int) != (m : Int)) = true := by simp; omega
    clear h1 h2
    go_enter Tryd.func23, Tryd.ntmps23
    go_wp2
    go_ret
    exact ⟨rfl, rfl⟩
theorem farB_of {x : Int} (h1 : ¬ 1048576 < x) (h2 : ¬ x < -1048576) : farB x = false := by unfold farB; rw [decide_eq_false h1, decide_eq_false h2]; rfl
theorem farB_hi {x : Int} (h1 : 1048576 < x) : farB x = true := by unfold farB; rw [decide_eq_true h1]; rfl
theorem farB_lo {x : Int} (h1 : x < -1048576) : farB x = true := by unfold farB; rw [decide_eq_true h1]; simp
set_option maxRecDepth 100000 in
set_option maxHeartbeats 8000000 in
theorem rowsError_in (r1 r2 : Option Addr) (n cap1 cap2 : Nat) (x y : Nat → Int) (w : World) (hn : n ≤ 256) (hn0 : n ≠ 0) (h1 : IntsAt w r1 n x) (h2 : IntsAt w r2 n y) :
    Calls Tryd.prog 23 #[.slice r1 n cap1, .slice r2 n cap2] w fun e w' => e = .returned (.int .i64 ((if anyZ farB x n || anyZ farB y n then 2 else 0 : Nat) : Int)) ∧ w = w' := by
  obtain ⟨b1, o1, rfl, hc1⟩ := h1.resolve_left hn0
  obtain ⟨b2, o2, rfl, hc2⟩ := h2.resolve_left hn0
  have HC1 := Lib.hid hc1
  have HC2 := Lib.hid hc2
  clear h1 h2 hc1 hc2
  have d0 : ((n : Int) == 0) = false := by simp; omega
  have d1 : ((n : Int) != (n : Int)) = false := by simp
  generalize hE : (if anyZ farB x n || anyZ farB y n then 2 else 0 : Nat) = E
  have HE := Lib.hid hE
  clear hE
  go_enter Tryd.func23, Tryd.ntmps23
  go_wp2
  go_loop [5] (fun v5 => ∃ k : Nat, k ≤ n ∧ v5 = .int .i64 k ∧ Hid (∀ j, j < k → farB (x j) = false ∧ farB (y j) = false)) (fun i => n - (intOf i).toNat)
  case atStart => exact ⟨0, Nat.zero_le _, rfl, Lib.hid fun j h => absurd h (by omega)⟩
  case round =>
    obtain ⟨k, hk, rfl, HNO⟩ := hrel
    by_cases hlt : k < n
    · have c1 := HC1.out k hlt
      have c2 := HC2.out k hlt
      have KX := Lib.hid (show farB (x k) = true → E = 2 from fun h => by rw [← HE.out]; rw [anyZ_true h hlt]; rfl)
      have KY := Lib.hid (show farB (y k) = true → E = 2 from fun h => by rw [← HE.out]; rw [anyZ_true h hlt]; simp)
      have KN := Lib.hid (show farB (x k) = false → farB (y k) = false → (∀ j, j < k + 1 → farB (x j) = false ∧ farB (y j) = false) from fun hx hy j hj => by
        rcases Nat.lt_or_ge j k with h | h
        · exact HNO.out j h
        · obtain rfl : j = k := by omega
          exact ⟨hx, hy⟩)
      generalize x k = p at c1 KX KN
      generalize y k = q at c2 KY KN
      by_cases g1 : 1048576 < p
      · go_wp2
        go_ret
        exact ⟨by rw [KX.out (farB_hi g1)]; rfl, rfl⟩
      · by_cases g2 : p < -1048576
        · go_wp2
          go_ret
          exact ⟨by rw [KX.out (farB_lo g2)]; rfl, rfl⟩
        · by_cases g3 : 1048576 < q
          · go_wp2
            go_ret
            exact ⟨by rw [KY.out (farB_hi g3)]; rfl, rfl⟩
          · by_cases g4 : q < -1048576
            · go_wp2
              go_ret
              exact ⟨by rw [KY.out (farB_lo g4)]; rfl, rfl⟩
            · go_wp2
              go_round
              case rel => exact ⟨k + 1, by omega, by go_num, Lib.hid (KN.out (farB_of g1 g2) (farB_of g3 g4))⟩
              case measure => simp [intOf]; omega
    · obtain rfl : k = n := by omega
      have E := Lib.hid (show E = 0 by
        rw [← HE.out]; rw [anyZ_false fun j hj => (HNO.out j hj).1, anyZ_false fun j hj => (HNO.out j hj).2]; rfl)
      go_wp2
      go_ret
      exact ⟨by rw [E.out]; rfl, rfl⟩
theorem rowsError_walk (r1 r2 : Option Addr) (n m cap1 cap2 : Nat) (x y : Nat → Int) (w : World) (hn : n ≤ 9223372036854775807) (hm : m ≤ 9223372036854775807) (h1 : IntsAt w r1 n x) (h2 : IntsAt w r2 m y) :
    Calls Tryd.prog 23 #[.slice r1 n cap1, .slice r2 m cap2] w fun e w' => e = .returned (.int .i64 (rowsE n m x y : Nat)) ∧ w = w' := by
  unfold rowsE
  by_cases h : 256 < n ∨ 256 < m
  · rw [if_pos h]; exact rowsError_far r1 r2 n m cap1 cap2 w hn hm h
  · rw [if_neg h]
    by_cases h0 : n = 0 ∨ n ≠ m
    · rw [if_pos h0]; exact rowsError_odd r1 r2 n m cap1 cap2 w (by omega) (by omega) h0
    · rw [if_neg h0]
      obtain rfl : n = m := by omega
      exact rowsError_in r1 r2 n cap1 cap2 x y w (by omega) (by omega) h1 h2

set_option maxRecDepth 100000 in
set_option maxHeartbeats 8000000 in
theorem best_no (a : Nat → Addr) (r1 r2 : Option Addr) (n m cap1 cap2 : Nat) (x y : Nat → Int) (w : World) (hn : n ≤ 9223372036854775807) (hm : m ≤ 9223372036854775807) (hs : Sen a [2, 5] w) (h1 : IntsAt w r1 n x) (h2 : IntsAt w r2 m y) (hE : rowsE n m x y ≠ 0) :
    Calls Tryd.prog 20 #[.slice r1 n cap1, .slice r2 m cap2] w fun e w' => e = .returned (.tuple #[.int .i64 0, .int .i64 0, errV a (rowsE n m x y)]) ∧ Below w.heap.size w w' := by
  have RW := Lib.hid (cross_no a r1 r2 n m cap1 cap2 x y w hn hm hs h1 h2 hE)
  obtain ⟨u, hu⟩ := errV_pos2 a hE
  rw [hu] at RW ⊢
  clear h1 h2 hE hs hu
  go_enter Tryd.func20, Tryd.ntmps20
  go_wp2_with (go_at_call 21; (with_reducible refine RW.out.mono ?_); rintro e w1 ⟨rfl, hb⟩; have HB := Lib.hid hb; clear hb)
  go_ret3
  exact ⟨rfl, HB.out⟩
theorem rowsE_yes {n m : Nat} {x y : Nat → Int} (h : rowsE n m x y = 0) : n = m ∧ n ≤ 256 ∧ 0 < n := by
  unfold rowsE at h
  split at h
  · cases h
  · split at h
    · cases h
    · omega
set_option maxRecDepth 100000 in
set_option maxHeartbeats 8000000 in
theorem best_yes (a : Nat → Addr) (r1 r2 : Option Addr) (n cap1 cap2 : Nat) (x y : Nat → Int) (w : World) (hs : Sen a [2, 5] w) (h1 : IntsAt w r1 (n + 1) x) (h2 : IntsAt w r2 (n + 1) y) (hE : rowsE (n + 1) (n + 1) x y = 0) :
    Calls Tryd.prog 20 #[.slice r1 (n + 1) cap1, .slice r2 (n + 1) cap2] w fun e w' => e = .returned (.tuple #[.int .i64 (bestUp (crossZ x y (n + 1)) n), .int .i64 (maxUp (crossZ x y (n + 1)) n), .nilIface]) ∧ Below w.heap.size w w' := by
  obtain ⟨_, hn, _⟩ := rowsE_yes hE
  have RW := Lib.hid (cross_yes a r1 r2 (n + 1) cap1 cap2 x y w hs h1 h2 hE hn (by omega))
  clear h1 h2 hE hs
  obtain ⟨z, hz⟩ : ∃ z, crossZ x y (n + 1) = z := ⟨_, rfl⟩
  unfold CrossYes at RW
  rw [hz] at RW ⊢
  clear hz
  have MW := Lib.hid (fun g X (h : IRow X g (n + 1) z) => max_walk _ n (n + 1) z X (by omega) h.ints)
  have IW := Lib.hid (fun g X (h : IRow X g (n + 1) z) => index_walk _ (n + 1) (n + 1) z (maxUp z n) (bestUp z n) X (by omega) h.ints (by have := bestUp_le z n; omega) (maxUp_best z n) (fun j hj e => by have := bestUp_first z n j hj; omega))
  have hi := bestUp_le z n
  have HM := Lib.hid (maxUp_best z n)
  generalize bestUp z n = i at *
  generalize maxUp z n = mx at *
  have hi0 : (0 : Int) ≤ (i : Int) := by omega
  have hi1 : (i : Int) < (n : Int) + 1 := by omega
  go_enter Tryd.func20, Tryd.ntmps20
  go_wp2_with (first
    | (go_at_call 21; (with_reducible refine RW.out.mono ?_); rintro e w1 ⟨g, rfl, hg, hr, hb⟩; have HB := Lib.hid hb; have R := Lib.hid hr; have c1 := hr.cell i (by omega); rw [HM.out] at c1; clear hb hr)
    | (go_at_call 41; (with_reducible refine (MW.out _ _ R.out).mono ?_); rintro e w2 ⟨rfl, rfl⟩)
    | (go_at_call 40; (with_reducible refine (IW.out _ _ R.out).mono ?_); rintro e w2 ⟨rfl, rfl⟩))
  go_quiet (fail)
  go_wp2
  go_ret3
  exact ⟨rfl, grow_drewN HB.out _⟩
end Go.Proofs.YtaakbajhbmbhcaaDoor
/- Whether a shift is proved. -/
set_option linter.unusedSimpArgs false
set_option linter.unusedVariables false
namespace Go.Proofs.YtaakbajhbmbhcaaDoor
open Go.RowKit Go.Grow

set_option maxRecDepth 100000 in
set_option maxHeartbeats 8000000 in
theorem proved_no (a : Nat → Addr) (r1 r2 : Option Addr) (n m cap1 cap2 : Nat) (s : Int) (x y : Nat → Int) (w : World) (hn : n ≤ 9223372036854775807) (hm : m ≤ 9223372036854775807) (hs : Sen a [2, 5] w) (h1 : IntsAt w r1 n x) (h2 : IntsAt w r2 m y) (hE : rowsE n m x y ≠ 0) :
    Calls Tryd.prog 22 #[.slice r1 n cap1, .slice r2 m cap2, .int .i64 s] w fun e w' => e = .returned (.tuple #[.bool false, errV a (rowsE n m x y)]) ∧ Below w.heap.size w w' := by
  have RW := Lib.hid (cross_no a r1 r2 n m cap1 cap2 x y w hn hm hs h1 h2 hE)
  obtain ⟨u, hu⟩ := errV_pos2 a hE
  rw [hu] at RW ⊢
  clear h1 h2 hE hs hu
  go_enter Tryd.func22, Tryd.ntmps22
  go_wp2_with (go_at_call 21; (with_reducible refine RW.out.mono ?_); rintro e w1 ⟨rfl, hb⟩; have HB := Lib.hid hb; clear hb)
  go_ret2
  exact ⟨rfl, HB.out⟩
/-- Is no shift better? -/
def bestB (z : Nat → Int) (n : Nat) (s : Int) : Bool := decide (0 ≤ s) && decide (s ≤ n) && decide (z s.toNat = maxUp z n)
set_option maxRecDepth 100000 in
set_option maxHeartbeats 8000000 in
theorem proved_yes (a : Nat → Addr) (r1 r2 : Option Addr) (n cap1 cap2 : Nat) (s : Int) (x y : Nat → Int) (w : World) (hs : Sen a [2, 5] w) (h1 : IntsAt w r1 (n + 1) x) (h2 : IntsAt w r2 (n + 1) y) (hE : rowsE (n + 1) (n + 1) x y = 0) :
    Calls Tryd.prog 22 #[.slice r1 (n + 1) cap1, .slice r2 (n + 1) cap2, .int .i64 s] w fun e w' => e = .returned (.tuple #[.bool (bestB (crossZ x y (n + 1)) n s), .nilIface]) ∧ Below w.heap.size w w' := by
  obtain ⟨_, hn, _⟩ := rowsE_yes hE
  have RW := Lib.hid (cross_yes a r1 r2 (n + 1) cap1 cap2 x y w hs h1 h2 hE hn (by omega))
  clear h1 h2 hE hs
  obtain ⟨z, hz⟩ : ∃ z, crossZ x y (n + 1) = z := ⟨_, rfl⟩
  unfold CrossYes at RW
  rw [hz] at RW ⊢
  clear hz
  have MW := Lib.hid (fun g X (h : IRow X g (n + 1) z) => max_walk _ n (n + 1) z X (by omega) h.ints)
  rcases Int.lt_or_le s 0 with hs0 | hs0
  · have d0 : decide (0 ≤ s) = false := decide_eq_false (by omega)
    have E := Lib.hid (show bestB z n s = false by unfold bestB; rw [d0]; rfl)
    rw [E.out]
    go_enter Tryd.func22, Tryd.ntmps22
    go_wp2_with (go_at_call 21; (with_reducible refine RW.out.mono ?_); rintro e w1 ⟨g, rfl, hg, hr, hb⟩; have HB := Lib.hid hb; have R := Lib.hid hr; clear hb hr)
    go_quiet (fail)
    go_wp2
    go_ret2
    exact ⟨rfl, grow_drewN HB.out _⟩
  · obtain ⟨i, rfl⟩ : ∃ i : Nat, (i : Int) = s := ⟨s.toNat, by omega⟩
    have d0 : decide ((0 : Int) ≤ (i : Int)) = true := decide_eq_true (by omega)
    rcases Nat.lt_or_ge n i with hs1 | hs1
    · have d1 : decide ((i : Int) ≤ (n : Int)) = false := decide_eq_false (by omega)
      have d2 : decide ((i : Int) < (n : Int) + 1) = false := decide_eq_false (by omega)
      have E := Lib.hid (show bestB z n i = false by unfold bestB; rw [d1]; simp)
      rw [E.out]
      clear d1
      go_enter Tryd.func22, Tryd.ntmps22
      go_wp2_with (go_at_call 21; (with_reducible refine RW.out.mono ?_); rintro e w1 ⟨g, rfl, hg, hr, hb⟩; have HB := Lib.hid hb; have R := Lib.hid hr; clear hb hr)
      go_quiet (fail)
      go_wp2
      go_ret2
      exact ⟨rfl, grow_drewN HB.out _⟩
    · have d2 : decide ((i : Int) < (n : Int) + 1) = true := decide_eq_true (by omega)
      have hi0 : (0 : Int) ≤ (i : Int) := by omega
      have hi1 : (i : Int) < (n : Int) + 1 := by omega
      have E := Lib.hid (show bestB z n i = (z i == maxUp z n) by
        unfold bestB; rw [d0, decide_eq_true (show (i : Int) ≤ (n : Int) by omega)]; rw [Bool.eq_iff_iff]; simp)
      rw [E.out]
      have hin : i < n + 1 := by omega
      clear E
      obtain ⟨t, ht⟩ : ∃ t, (z i == maxUp z n) = t := ⟨_, rfl⟩
      rw [ht]
      have HZ := Lib.hid (fun g X (h : IRow X g (n + 1) z) => h.cell i hin)
      generalize z i = u at ht HZ
      generalize maxUp z n = mx at ht MW
      go_enter Tryd.func22, Tryd.ntmps22
      go_wp2_with (go_at_call 21; (with_reducible refine RW.out.mono ?_); rintro e w1 ⟨g, rfl, hg, hr, hb⟩; have HB := Lib.hid hb; have R := Lib.hid hr; have c1 := HZ.out g w1 hr; clear hb hr)
      go_quiet ((go_at_call 41; refine Calls.quiet_of_same ((MW.out g _ (R.out.below (grow_drewN (grow_refl _) _))).mono fun e w' h => ⟨h.1, h.2.symm⟩)))
      go_wp2
      go_ret2
      exact ⟨rfl, grow_drewN HB.out _⟩
end Go.Proofs.YtaakbajhbmbhcaaDoor
/- ShiftCross: the law's walk. -/
set_option linter.unusedSimpArgs false
set_option linter.unusedVariables false
namespace Go.Proofs.YtaakbajhbmbhcaaDoor
open Go.RowKit Go.Grow

def z010 (k : Nat) : Int := if k = 1 then 1 else 0
def z001 (k : Nat) : Int := if k = 2 then 1 else 0
def W2 (w : World) : World := (w.alloc (.cells #[.int .i64 0, .int .i64 1, .int .i64 0] 3)).alloc (.cells #[.int .i64 0, .int .i64 0, .int .i64 1] 3)
theorem grow_W2 (w : World) : Below w.heap.size w (W2 w) := grow_alloc (grow_alloc (grow_refl w) _) _
theorem ints_of_known {w : World} {b n : Nat} {c : Array Value} {z : Nat → Int} (h : Known w b c) (e : ∀ k, k < n → c[k]? = some (.int .i64 (z k))) : IntsAt w (some ⟨b, 0, none⟩) n z :=
  .inr ⟨b, 0, rfl, fun k hk => by rw [Nat.zero_add, h.cell k]; exact e k hk⟩
theorem first_best (a : Nat → Addr) (w : World) (hs : Sen a [2, 5] w) :
    Calls Tryd.prog 20 #[.slice (some ⟨w.heap.size, 0, none⟩) 3 3, .slice (some ⟨w.heap.size + 1, 0, none⟩) 3 3] (W2 w) fun e w' => e = .returned (.tuple #[.int .i64 1, .int .i64 1, .nilIface]) ∧ Below w.heap.size w w' := by
  have k1 : IntsAt (W2 w) (some ⟨w.heap.size, 0, none⟩) 3 z010 := ints_of_known ((Known.new w _ _).alloc _) fun k hk => by
    have : k = 0 ∨ k = 1 ∨ k = 2 := by omega
    rcases this with rfl | rfl | rfl <;> rfl
  have k2 : IntsAt (W2 w) (some ⟨w.heap.size + 1, 0, none⟩) 3 z001 := ints_of_known (Known.new' (by simp)) fun k hk => by
    have : k = 0 ∨ k = 1 ∨ k = 2 := by omega
    rcases this with rfl | rfl | rfl <;> rfl
  have h := best_yes a (some ⟨w.heap.size, 0, none⟩) (some ⟨w.heap.size + 1, 0, none⟩) 2 3 3 z010 z001 (W2 w) (hs.below (grow_W2 w)) k1 k2 (by decide)
  rw [show bestUp (crossZ z010 z001 (2 + 1)) 2 = 1 by decide +kernel, show maxUp (crossZ z010 z001 (2 + 1)) 2 = 1 by decide +kernel] at h
  exact h.mono fun e w' hh => ⟨hh.1, grow_trans (grow_W2 w) hh.2⟩
set_option maxRecDepth 100000 in
set_option maxHeartbeats 8000000 in
theorem cross_skip (a : Nat → Addr) (r1 r2 : Option Addr) (n m cap1 cap2 : Nat) (s : Int) (w : World) (hs : Sen a [2, 5] w) (hn : n ≤ 9223372036854775807) (hm : m ≤ 9223372036854775807) (h : (60 < n ∧ n ≤ 256) ∨ (60 < m ∧ m ≤ 256) ∨ 300 < n ∨ 300 < m) :
    Calls Tryd.prog 5 #[.slice r1 n cap1, .slice r2 m cap2, .int .i64 s] w fun e w' => e = .returned (.bool true) ∧ Below w.heap.size w w' := by
  have BF := Lib.hid (first_best a w hs)
  unfold W2 at BF
  clear hs
  go_enter Tryd.func5, Tryd.ntmps5
  go_wp2_with (go_at_call 20; (with_reducible refine BF.out.mono ?_); rintro e w1 ⟨rfl, hb⟩; have HB := Lib.hid hb; clear hb)
  all_goals
    go_ret
    exact ⟨rfl, HB.out⟩
end Go.Proofs.YtaakbajhbmbhcaaDoor
