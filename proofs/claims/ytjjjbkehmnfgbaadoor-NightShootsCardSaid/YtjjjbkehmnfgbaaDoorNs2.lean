/- Spans: tests of lists of spans. -/
import Derived.Test.YtjjjbkehmnfgbaaDoorNj1
import Derived.BigQuiet
set_option linter.unusedSimpArgs false
set_option linter.unusedVariables false
namespace Go.Proofs.YtjjjbkehmnfgbaaDoor
open Go.RowKit Go.Grow

/-- Spans that rise and do not touch. -/
def Rise (l : List (Int × Int)) : Prop := ∀ k (h : k < l.length), l[k].1 < l[k].2 ∧ ∀ j (hj : j + 1 = k), (l[j]'(by omega)).2 < l[k].1
def inSp (l : List (Int × Int)) (x : Int) : Bool := l.any fun s => decide (s.1 ≤ x) && decide (x < s.2)
set_option maxRecDepth 100000 in
set_option maxHeartbeats 8000000 in
theorem inSpans_walk (r : Option Addr) (l : List (Int × Int)) (cap : Nat) (x : Int) (w : World) (hl : l.length ≤ 1000000) (hr : SpAt w r l) :
    Calls Tryd.prog 34 #[.slice r l.length cap, .int .i64 x] w fun e w' => e = .returned (.bool (inSp l x)) ∧ Below w.heap.size w w' := by
  have HR := Lib.hid hr
  clear hr
  go_enter Tryd.func34, Tryd.ntmps34
  go_wp2
  go_loopw [5] (fun v5 wr => ∃ k q : Nat, k ≤ l.length ∧ v5 = .int .i64 k ∧ wr = w.drewN q ∧ Hid (inSp (l.take k) x = false)) (fun i _ => l.length - (intOf i).toNat)
  case atStart => exact ⟨0, 0, Nat.zero_le _, rfl, rfl, Lib.hid rfl⟩
  case round =>
    obtain ⟨k, q, hk, rfl, rfl, HI⟩ := hrel
    by_cases hlt : k < l.length
    · obtain ⟨b1, o1, rfl, hc⟩ := HR.out.resolve_left (by intro h; rw [h] at hlt; exact absurd hlt (by simp))
      obtain ⟨e0, e1⟩ := hc k hlt
      have hi0 : (0 : Int) ≤ (k : Int) := by omega
      have hi1 : (k : Int) < (l.length : Int) := by omega
      have HS := Lib.hid (show inSp (l.take (k + 1)) x = (decide (l[k].1 ≤ x) && decide (x < l[k].2)) by
        rw [take_snocS l k hlt]
        unfold inSp at *
        rw [List.any_append, HI.out]; simp)
      have HA := Lib.hid (show (decide (l[k].1 ≤ x) && decide (x < l[k].2)) = true → inSp l x = true from fun h => by
        unfold inSp
        rw [List.any_eq_true]
        exact ⟨l[k], List.getElem_mem hlt, h⟩)
      clear hc HI
      generalize l[k] = y at e0 e1 HS HA
      obtain ⟨ya, yb⟩ := y
      simp only at e0 e1
      by_cases c1 : ya ≤ x
      · by_cases c2 : x < yb
        · have d1 : decide (ya ≤ x) = true := decide_eq_true c1
          have d2 : decide (x < yb) = true := decide_eq_true c2
          have HT := Lib.hid (HA.out (by simp [d1, d2]))
          go_wp2
          go_ret
          exact ⟨by rw [HT.out]; rfl, grow_drewN (grow_refl _) _⟩
        · have d1 : decide (ya ≤ x) = true := decide_eq_true c1
          have d2 : decide (x < yb) = false := decide_eq_false c2
          have HT := Lib.hid (show inSp (l.take (k + 1)) x = false by rw [HS.out]; show (decide (ya ≤ x) && decide (x < yb)) = false; rw [d1, d2]; rfl)
          go_wp2
          go_roundw
          case rel => exact ⟨k + 1, q, by omega, by go_num, rfl, HT⟩
          case measure => simp [intOf]; omega
      · have d1 : decide (ya ≤ x) = false := decide_eq_false c1
        have HT := Lib.hid (show inSp (l.take (k + 1)) x = false by rw [HS.out]; show (decide (ya ≤ x) && decide (x < yb)) = false; rw [d1]; rfl)
        go_wp2
        go_roundw
        case rel => exact ⟨k + 1, q, by omega, by go_num, rfl, HT⟩
        case measure => simp [intOf]; omega
    · obtain rfl : k = l.length := by omega
      rw [List.take_length] at HI
      go_wp2
      go_ret
      exact ⟨by rw [HI.out]; rfl, grow_drewN (grow_refl _) _⟩
end Go.Proofs.YtjjjbkehmnfgbaaDoor
