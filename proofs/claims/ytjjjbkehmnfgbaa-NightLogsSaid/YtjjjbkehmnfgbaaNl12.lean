/- Two lists of results, compared. -/
import Derived.Test.YtjjjbkehmnfgbaaNl11
set_option linter.unusedSimpArgs false
set_option linter.unusedVariables false
namespace Go.Proofs.Ytjjjbkehmnfgbaa
open Go.RowKit Go.Grow

set_option maxRecDepth 100000 in
set_option maxHeartbeats 8000000 in
theorem same_walk (ra rb : Option Addr) (l : List Res) (ca cb : Nat) (w : World) (ha : ResAt w ra l) (hb : ResAt w rb l) (hl : l.length ≤ 1000000) :
    Calls Try.prog 8 #[.slice ra l.length ca, .slice rb l.length cb] w fun e w' => e = .returned (.bool true) ∧ Below w.heap.size w w' := by
  have HA := Lib.hid ha
  have HB := Lib.hid hb
  clear ha hb
  go_enter Try.func8, Try.ntmps8
  go_wp2
  go_loopw [5] (fun v5 wr => ∃ k : Nat, k ≤ l.length ∧ v5 = .int .i64 k ∧ Below w.heap.size w wr) (fun i _ => l.length - (intOf i).toNat)
  case atStart => exact ⟨0, Nat.zero_le _, rfl, Below.refl _ _⟩
  case round =>
    obtain ⟨k, hk, rfl, hg⟩ := hrel
    have HG := Lib.hid hg
    clear hg
    by_cases hlt : k < l.length
    · obtain ⟨b1, o1, rfl, hc1⟩ := HA.out.resolve_left (by intro h; rw [h] at hlt; exact absurd hlt (by simp))
      obtain ⟨b2, o2, rfl, hc2⟩ := HB.out.resolve_left (by intro h; rw [h] at hlt; exact absurd hlt (by simp))
      obtain ⟨e0, e1, e2⟩ := hc1 k hlt
      obtain ⟨f0, f1, f2⟩ := hc2 k hlt
      have hb1 : b1 < w.heap.size := lt_of_cell e0
      have hb2 : b2 < w.heap.size := lt_of_cell f0
      rw [← HG.out.cell (p := ⟨b1, _, none⟩) hb1] at e0 e1 e2
      rw [← HG.out.cell (p := ⟨b2, _, none⟩) hb2] at f0 f1 f2
      clear hc1 hc2 hb1 hb2
      generalize l[k] = x at *
      go_wp2
      go_quiet (fail)
      go_wp2
      go_roundw
      case rel => exact ⟨k + 1, by omega, by go_num, HG.out.trans ⟨rfl, rfl, rfl, Nat.le_refl _, fun _ _ => rfl⟩⟩
      case measure => simp [intOf]; omega
    · obtain rfl : k = l.length := by omega
      go_wp2
      go_ret
      exact ⟨rfl, HG.out⟩
end Go.Proofs.Ytjjjbkehmnfgbaa
