/- ShiftCross: the law's walk. -/
import Derived.Test.YtaakbajhbmbhcaaDoorSx6
set_option linter.unusedSimpArgs false
set_option linter.unusedVariables false
namespace Go.Proofs.YtaakbajhbmbhcaaDoor
open Go.RowKit Go.Grow

def z010 (k : Nat) : Int := if k = 1 then 1 else 0
def z001 (k : Nat) : Int := if k = 2 then 1 else 0
def W2 (w : World) : World := (w.alloc (.cells #[.int .i64 0, .int .i64 1, .int .i64 0] 3)).alloc (.cells #[.int .i64 0, .int .i64 0, .int .i64 1] 3)
theorem grow_W2 (w : World) : Below w.heap.size w (W2 w) := grow_alloc (grow_alloc (grow_refl w) _) _
theorem ints_of_known {w : World} {b n : Nat} {c : Array Value} {z : Nat → Int} (h : Known w b c) (e : ∀ k, k < n → c[k]? = some (.int .i64 (z k))) : IntsAt w (some ⟨b, 0, none⟩) n z :=
  .inr ⟨b, 0, rfl, fun k hk => by rw [Nat.zero_add, h.cell k]; exact e k hk⟩
theorem first_best (a : Nat → Addr) (w : World) (hs : Sen a [2, 5] w) :
    Calls Tryd.prog 20 #[.slice (some ⟨w.heap.size, 0, none⟩) 3 3, .slice (some ⟨w.heap.size + 1, 0, none⟩) 3 3] (W2 w) fun e w' => e = .returned (.tuple #[.int .i64 1, .int .i64 1, .nilIface]) ∧ Below w.heap.size w w' := by
  have k1 : IntsAt (W2 w) (some ⟨w.heap.size, 0, none⟩) 3 z010 := ints_of_known ((Known.new w _ _).alloc _) fun k hk => by
    have : k = 0 ∨ k = 1 ∨ k = 2 := by omega
    rcases this with rfl | rfl | rfl <;> rfl
  have k2 : IntsAt (W2 w) (some ⟨w.heap.size + 1, 0, none⟩) 3 z001 := ints_of_known (Known.new' (by simp)) fun k hk => by
    have : k = 0 ∨ k = 1 ∨ k = 2 := by omega
    rcases this with rfl | rfl | rfl <;> rfl
  have h := best_yes a (some ⟨w.heap.size, 0, none⟩) (some ⟨w.heap.size + 1, 0, none⟩) 2 3 3 z010 z001 (W2 w) (hs.below (grow_W2 w)) k1 k2 (by decide)
  rw [show bestUp (crossZ z010 z001 (2 + 1)) 2 = 1 by decide +kernel, show maxUp (crossZ z010 z001 (2 + 1)) 2 = 1 by decide +kernel] at h
  exact h.mono fun e w' hh => ⟨hh.1, grow_trans (grow_W2 w) hh.2⟩
set_option maxRecDepth 100000 in
set_option maxHeartbeats 8000000 in
theorem cross_skip (a : Nat → Addr) (r1 r2 : Option Addr) (n m cap1 cap2 : Nat) (s : Int) (w : World) (hs : Sen a [2, 5] w) (hn : n ≤ 9223372036854775807) (hm : m ≤ 9223372036854775807) (h : (60 < n ∧ n ≤ 256) ∨ (60 < m ∧ m ≤ 256) ∨ 300 < n ∨ 300 < m) :
    Calls Tryd.prog 5 #[.slice r1 n cap1, .slice r2 m cap2, .int .i64 s] w fun e w' => e = .returned (.bool true) ∧ Below w.heap.size w w' := by
  have BF := Lib.hid (first_best a w hs)
  unfold W2 at BF
  clear hs
  go_enter Tryd.func5, Tryd.ntmps5
  go_wp2_with (go_at_call 20; (with_reducible refine BF.out.mono ?_); rintro e w1 ⟨rfl, hb⟩; have HB := Lib.hid hb; clear hb)
  all_goals
    go_ret
    exact ⟨rfl, HB.out⟩
end Go.Proofs.YtaakbajhbmbhcaaDoor
