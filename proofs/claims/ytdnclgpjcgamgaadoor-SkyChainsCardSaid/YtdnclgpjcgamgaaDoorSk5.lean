/- Chains of turns: whether a chain is right. -/
import Derived.Test.YtdnclgpjcgamgaaDoorSp
import Derived.BigQuiet
set_option linter.unusedSimpArgs false
set_option linter.unusedVariables false
namespace Go.Proofs.YtdnclgpjcgamgaaDoor
open Go.RowKit Go.Grow

def axB (s : Int × Int) : Bool := decide (0 ≤ s.1) && decide (s.1 ≤ 2)
def stE (l : List (Int × Int)) : Nat := if l.all axB then 0 else 5
theorem axB_false {l : List (Int × Int)} {k : Nat} (hk : k < l.length) (h : axB l[k] = false) : l.all axB = false := by
  rw [List.all_eq_false]
  exact ⟨l[k], List.getElem_mem hk, by simp [h]⟩
theorem axB_snoc {l : List (Int × Int)} {k : Nat} (hk : k < l.length) (h : axB l[k] = true) (h2 : (l.take k).all axB = true) : (l.take (k + 1)).all axB = true := by
  rw [take_snocS l k hk, List.all_append, h2]; simp [h]
set_option maxRecDepth 100000 in
set_option maxHeartbeats 8000000 in
theorem stepsError_walk (r : Option Addr) (l : List (Int × Int)) (cap : Nat) (w : World) (hl : l.length ≤ 60) (hr : SpAt w r l) :
    Calls Tryd.prog 12 #[.slice r l.length cap] w fun e w' => e = .returned (.int .i64 (stE l : Nat)) ∧ Below w.heap.size w w' := by
  have HR := Lib.hid hr
  clear hr
  go_enter Tryd.func12, Tryd.ntmps12
  go_wp2
  go_loopw [3] (fun v3 wr => ∃ k q : Nat, k ≤ l.length ∧ v3 = .int .i64 k ∧ wr = w.drewN q ∧ Hid ((l.take k).all axB = true)) (fun i _ => l.length - (intOf i).toNat)
  case atStart => exact ⟨0, 0, Nat.zero_le _, rfl, rfl, Lib.hid rfl⟩
  case round =>
    obtain ⟨k, q, hk, rfl, rfl, HI⟩ := hrel
    by_cases hlt : k < l.length
    · obtain ⟨b1, o1, rfl, hc⟩ := HR.out.resolve_left (by intro h; rw [h] at hlt; exact absurd hlt (by simp))
      obtain ⟨e0, e1⟩ := hc k hlt
      have hi0 : (0 : Int) ≤ (k : Int) := by omega
      have hi1 : (k : Int) < (l.length : Int) := by omega
      have HN := Lib.hid (fun h => axB_false (l := l) hlt h)
      have HY := Lib.hid (fun h => axB_snoc (l := l) hlt h HI.out)
      clear hc HI
      generalize l[k] = y at e0 e1 HN HY
      obtain ⟨xa, xb⟩ := y
      simp only at e0 e1
      rcases Int.lt_or_le xa 0 with h0 | h0
      · have HT := Lib.hid (HN.out (by unfold axB; simp; omega))
        have d0 : (xa != 0) = true := by simp; omega
        have d1 : (xa != 1) = true := by simp; omega
        have d2 : (xa != 2) = true := by simp; omega
        have e0' : ¬ xa = 0 := by omega
        have e1' : ¬ xa = 1 := by omega
        have e2' : ¬ xa = 2 := by omega
        go_wp2
        go_ret
        exact ⟨by unfold stE; rw [HT.out]; rfl, grow_drewN (grow_refl _) _⟩
      · rcases Int.lt_or_le 2 xa with h2 | h2
        · have HT := Lib.hid (HN.out (by unfold axB; simp; omega))
          have d0 : (xa != 0) = true := by simp; omega
          have d1 : (xa != 1) = true := by simp; omega
          have d2 : (xa != 2) = true := by simp; omega
          have e0' : ¬ xa = 0 := by omega
          have e1' : ¬ xa = 1 := by omega
          have e2' : ¬ xa = 2 := by omega
          go_wp2
          go_ret
          exact ⟨by unfold stE; rw [HT.out]; rfl, grow_drewN (grow_refl _) _⟩
        · have HT := Lib.hid (HY.out (by unfold axB; simp; omega))
          have hx : xa = 0 ∨ xa = 1 ∨ xa = 2 := by omega
          rcases hx with rfl | rfl | rfl
          all_goals
            go_wp2
            go_roundw
            case rel => exact ⟨k + 1, _, by omega, by go_num, rfl, HT⟩
            case measure => simp [intOf]; omega
    · obtain rfl : k = l.length := by omega
      have HZ := Lib.hid (show l.all axB = true by have := HI.out; rwa [List.take_length] at this)
      go_wp2
      go_ret
      exact ⟨by unfold stE; rw [HZ.out]; rfl, grow_drewN (grow_refl _) _⟩
set_option maxRecDepth 100000 in
set_option maxHeartbeats 8000000 in
theorem valid_walk (a : Nat → Addr) (r : Option Addr) (l : List (Int × Int)) (cap : Nat) (w : World) (hs : Sen a [2, 5] w) (hl : l.length ≤ 60) (hr : SpAt w r l) :
    Calls Tryd.prog 26 #[.slice r l.length cap] w fun e w' => e = .returned (errV a (stE l)) ∧ Below w.heap.size w w' := by
  have c5 := (hs 5 (by decide)).1
  have l5 := (hs.lt (k := 5) (by decide)).1
  simp only [gOf] at c5 l5
  have HR := Lib.hid hr
  clear hr hs
  go_enter Tryd.func26, Tryd.ntmps26
  go_wp2
  go_loopw [11] (fun v wr => ∃ k : Nat, k ≤ l.length ∧ v = .int .i64 k ∧ Below w.heap.size w wr ∧ Hid ((l.take k).all axB = true)) (fun i _ => l.length - (intOf i).toNat)
  case atStart => exact ⟨0, Nat.zero_le _, rfl, Below.refl _ _, Lib.hid rfl⟩
  case round =>
    obtain ⟨k, hk, rfl, hg, HI⟩ := hrel
    have G := Lib.hid hg
    have hz := hg.size
    clear hg
    have c5' := (G.out.cell (p := ⟨0, 0, none⟩) l5).trans c5
    by_cases hlt : k < l.length
    · obtain ⟨b1, o1, rfl, hc⟩ := (HR.out.below G.out).resolve_left (by intro h; rw [h] at hlt; exact absurd hlt (by simp))
      obtain ⟨e0, e1⟩ := hc k hlt
      have hi0 : (0 : Int) ≤ (k : Int) := by omega
      have hi1 : (k : Int) < (l.length : Int) := by omega
      have HN := Lib.hid (fun h => axB_false (l := l) hlt h)
      have HY := Lib.hid (fun h => axB_snoc (l := l) hlt h HI.out)
      have hlb := lt_of_cellS e0
      simp only at hlb
      clear hc HI
      generalize l[k] = y at e0 e1 HN HY
      obtain ⟨xa, xb⟩ := y
      simp only at e0 e1
      rcases Int.lt_or_le xa 0 with h0 | h0
      · have HT := Lib.hid (HN.out (by unfold axB; simp; omega))
        have d0 : decide (xa < 0) = true := decide_eq_true (by omega)
        go_wp2
        go_ret
        exact ⟨by unfold stE; rw [HT.out]; rfl, by repeat (with_reducible first | exact G.out | refine Grow.grow_drewN ?_ _ | refine Grow.grow_drew ?_ | refine Grow.grow_alloc ?_ _)⟩
      · have d0 : decide (xa < 0) = false := decide_eq_false (by omega)
        rcases Int.lt_or_le 2 xa with h2 | h2
        · have HT := Lib.hid (HN.out (by unfold axB; simp; omega))
          have d1 : decide (2 < xa) = true := decide_eq_true (by omega)
          go_wp2
          go_ret
          exact ⟨by unfold stE; rw [HT.out]; rfl, by repeat (with_reducible first | exact G.out | refine Grow.grow_drewN ?_ _ | refine Grow.grow_drew ?_ | refine Grow.grow_alloc ?_ _)⟩
        · have HT := Lib.hid (HY.out (by unfold axB; simp; omega))
          have d1 : decide (2 < xa) = false := decide_eq_false (by omega)
          go_wp2
          go_roundw
          case rel => exact ⟨k + 1, by omega, by go_num, by repeat (with_reducible first | exact G.out | refine Grow.grow_drewN ?_ _ | refine Grow.grow_drew ?_ | refine Grow.grow_alloc ?_ _), HT⟩
          case measure => simp [intOf]; omega
    · obtain rfl : k = l.length := by omega
      have HZ := Lib.hid (show l.all axB = true by have := HI.out; rwa [List.take_length] at this)
      go_wp2
      go_ret
      exact ⟨by unfold stE; rw [HZ.out]; rfl, G.out⟩
end Go.Proofs.YtdnclgpjcgamgaaDoor
