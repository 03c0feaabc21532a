/- Rows of whole numbers: slices.Max, Index; the program's test of two rows; the document's. -/
import Derived.Test.YtaakbajhbmbhcaaDoorSx1
set_option linter.unusedSimpArgs false
set_option linter.unusedVariables false
namespace Go.Proofs.YtaakbajhbmbhcaaDoor
open Go.RowKit Go.Grow

/-- The greatest of z 0, .., z n. -/
def maxUp (z : Nat → Int) : Nat → Int
  | 0 => z 0
  | n + 1 => max (maxUp z n) (z (n + 1))
set_option maxRecDepth 100000 in
set_option maxHeartbeats 4000000 in
theorem max_walk (r : Option Addr) (n cap : Nat) (z : Nat → Int) (w : World) (hn : n + 1 ≤ 9223372036854775807) (hr : IntsAt w r (n + 1) z) :
    Calls Tryd.prog 41 #[.slice r (n + 1) cap] w fun e w' => e = .returned (.int .i64 (maxUp z n)) ∧ w = w' := by
  obtain ⟨b1, o1, rfl, hc⟩ := hr.resolve_left (by omega)
  have HC := Lib.hid hc
  have c0 := hc 0 (by omega)
  clear hc hr
  rw [Nat.add_zero] at c0
  have hn1 : ¬ ((n : Int) + 1 < 1) := by omega
  go_enter Tryd.func41, Tryd.ntmps41
  go_wp2
  go_loop [3, 4] (fun v3 v4 => ∃ k : Nat, k ≤ n ∧ v4 = .int .i64 ((k : Int) + 1) ∧ v3 = .int .i64 (maxUp z k)) (fun _ i => n + 1 - (intOf i).toNat)
  case atStart => exact ⟨0, Nat.zero_le _, rfl, rfl⟩
  case round =>
    obtain ⟨k, hk, rfl, rfl⟩ := hrel
    clear c0
    by_cases hlt : k < n
    · have c1 := HC.out (k + 1) (by omega)
      have HM := Lib.hid (show maxUp z (k + 1) = max (maxUp z k) (z (k + 1)) from rfl)
      generalize maxUp z k = m at HM ⊢
      generalize z (k + 1) = x at HM c1
      go_wp2
      all_goals
        go_round
        case rel => exact ⟨k + 1, by omega, by go_num, by rw [HM.out]; congr 1; omega⟩
        case measure => simp [intOf]; omega
    · obtain rfl : k = n := by omega
      go_wp2
      go_ret
      exact ⟨rfl, rfl⟩
/-- The first at which z is greatest. -/
def bestUp (z : Nat → Int) : Nat → Nat
  | 0 => 0
  | n + 1 => if z (bestUp z n) < z (n + 1) then n + 1 else bestUp z n
theorem bestUp_le (z : Nat → Int) : ∀ n, bestUp z n ≤ n
  | 0 => Nat.le_refl _
  | n + 1 => by
    have := bestUp_le z n
    unfold bestUp; split <;> omega
theorem maxUp_best (z : Nat → Int) : ∀ n, z (bestUp z n) = maxUp z n
  | 0 => rfl
  | n + 1 => by
    have := maxUp_best z n
    unfold bestUp maxUp
    split <;> omega
theorem le_maxUp (z : Nat → Int) : ∀ n j, j ≤ n → z j ≤ maxUp z n
  | 0, j, h => by obtain rfl : j = 0 := by omega
                  exact Int.le_refl _
  | n + 1, j, h => by
    unfold maxUp
    rcases Nat.lt_or_ge j (n + 1) with h' | h'
    · have := le_maxUp z n j (by omega); omega
    · obtain rfl : j = n + 1 := by omega
      omega
theorem bestUp_first (z : Nat → Int) : ∀ n j, j < bestUp z n → z j < maxUp z n
  | 0, j, h => by unfold bestUp at h; omega
  | n + 1, j, h => by
    have e := maxUp_best z n
    unfold bestUp at h
    unfold maxUp
    split at h
    · have := le_maxUp z n j (by omega); omega
    · have := bestUp_first z n j h; omega
set_option maxRecDepth 100000 in
set_option maxHeartbeats 4000000 in
theorem index_walk (r : Option Addr) (n cap : Nat) (z : Nat → Int) (x : Int) (i0 : Nat) (w : World) (hn : n ≤ 9223372036854775807) (hr : IntsAt w r n z) (h0 : i0 < n) (hx : z i0 = x) (hf : ∀ j, j < i0 → z j ≠ x) :
    Calls Tryd.prog 40 #[.slice r n cap, .int .i64 x] w fun e w' => e = .returned (.int .i64 i0) ∧ w = w' := by
  obtain ⟨b1, o1, rfl, hc⟩ := hr.resolve_left (by omega)
  have HC := Lib.hid hc
  have HX := Lib.hid hx
  have HF := Lib.hid hf
  clear hc hr hx hf
  go_enter Tryd.func40, Tryd.ntmps40
  go_wp2
  go_loop [8] (fun v8 => ∃ k : Nat, k ≤ i0 ∧ v8 = .int .i64 k) (fun i => n - (intOf i).toNat)
  case atStart => exact ⟨0, Nat.zero_le _, rfl⟩
  case round =>
    obtain ⟨k, hk, rfl⟩ := hrel
    have hkn : k < n := by omega
    have c1 := HC.out k hkn
    by_cases hlt : k < i0
    · have hne : ¬ (x = z k) := fun e => HF.out k hlt e.symm
      generalize z k = y at c1 hne
      have d0 : (x == y) = false := by simpa using hne
      clear hne
      go_wp2
      go_round
      case rel => exact ⟨k + 1, by omega, by go_num⟩
      case measure => simp [intOf]; omega
    · obtain rfl : k = i0 := by omega
      rw [HX.out] at c1
      go_wp2
      go_ret
      exact ⟨rfl, rfl⟩
/-- The test of two rows: an error's number. -/
def rowsE (n m : Nat) (x y : Nat → Int) : Nat :=
  if 256 < n ∨ 256 < m then 2 else if n = 0 ∨ n ≠ m then 5 else if anyZ farB x n || anyZ farB y n then 2 else 0
end Go.Proofs.YtaakbajhbmbhcaaDoor
