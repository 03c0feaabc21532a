/- Spans: how long they are, the program's. -/
import Derived.Test.YtlfpfeidaohjmaaDoorEs4
set_option linter.unusedSimpArgs false
set_option linter.unusedVariables false
namespace Go.Proofs.YtlfpfeidaohjmaaDoor
open Go.RowKit Go.Grow

theorem okUp_at {l : List (Int × Int)} : ∀ {m : Nat}, okUp l m = true → ∀ k, k < m → okAt l k = true
  | 0, _, k, hk => absurd hk (by omega)
  | m + 1, h, k, hk => by
    rw [okUp, Bool.and_eq_true] at h
    rcases Nat.lt_or_ge k m with h1 | h1
    · exact okUp_at h.1 k h1
    · obtain rfl : k = m := by omega
      exact h.2
/-- What a right list tells. -/
theorem fine_at {l : List (Int × Int)} (h : fineB l = true) (k : Nat) (hk : k < l.length) : l[k].1 < l[k].2 ∧ -1152921504606846976 ≤ l[k].1 ∧ l[k].2 ≤ 1152921504606846976 ∧ ∀ j (hj : j + 1 = k), (l[j]'(by omega)).2 < l[k].1 := by
  have h1 := okUp_at h k hk
  rcases Nat.eq_zero_or_pos k with h0 | h0
  · rw [okAt_zero hk (xa := l[k].1) (xb := l[k].2) rfl h0] at h1
    simp only [Bool.and_eq_true, decide_eq_true_eq] at h1
    exact ⟨h1.1.1, h1.1.2, h1.2, fun j hj => absurd hj (by omega)⟩
  · obtain ⟨j, hj⟩ : ∃ j, j + 1 = k := ⟨k - 1, by omega⟩
    rw [okAt_pos hk (xa := l[k].1) (xb := l[k].2) rfl hj (ya := (l[j]'(by omega)).1) (yb := (l[j]'(by omega)).2) rfl] at h1
    simp only [Bool.and_eq_true, decide_eq_true_eq] at h1
    refine ⟨h1.1.1.1, h1.1.1.2, h1.1.2, fun i hi => ?_⟩
    obtain rfl : i = j := by omega
    exact h1.2
def lenUp (l : List (Int × Int)) : Nat → Int
  | 0 => 0
  | k + 1 => lenUp l k + ((l.getD k (0, 0)).2 - (l.getD k (0, 0)).1)
theorem lenUp_le {l : List (Int × Int)} (h : fineB l = true) : ∀ k, k ≤ l.length → 0 ≤ lenUp l k ∧ lenUp l k ≤ 2305843009213693952 ∧ ∀ j (hj : j + 1 = k) (hl : j < l.length), lenUp l k ≤ l[j].2 + 1152921504606846976
  | 0, _ => ⟨Int.le_refl _, (by decide : (0 : Int) ≤ 2305843009213693952), fun j hj _ => absurd hj (by omega)⟩
  | k + 1, hk => by
    obtain ⟨h1, h2, h3⟩ := lenUp_le h k (by omega)
    obtain ⟨a1, a2, a3, a4⟩ := fine_at h k (by omega)
    have e : l.getD k (0, 0) = l[k]'(by omega) := by simp [show k < l.length by omega]
    rw [lenUp, e]
    have key : lenUp l k + ((l[k]'(by omega)).2 - (l[k]'(by omega)).1) ≤ (l[k]'(by omega)).2 + 1152921504606846976 := by
      rcases Nat.eq_zero_or_pos k with h0 | h0
      · subst h0
        show (0 : Int) + _ ≤ _
        omega
      · obtain ⟨j, hj⟩ : ∃ j, j + 1 = k := ⟨k - 1, by omega⟩
        have b1 := h3 j hj (by omega)
        have b2 := a4 j hj
        omega
    refine ⟨by omega, by omega, fun j hj hl => ?_⟩
    obtain rfl : j = k := by omega
    exact key
set_option maxRecDepth 100000 in
set_option maxHeartbeats 8000000 in
theorem long_yes (a : Nat → Addr) (r : Option Addr) (l : List (Int × Int)) (cap : Nat) (w : World) (hs : Sen a [2, 5] w) (hl : l.length ≤ 4000) (hr : SpAt w r l) (hF : fineB l = true) :
    Calls Tryd.prog 51 #[.slice r l.length cap] w fun e w' => e = .returned (.tuple #[.int .i64 (lenUp l l.length), .nilIface]) ∧ Below w.heap.size w w' := by
  have SP := Lib.hid (show Calls Tryd.prog 93 #[.slice (some ⟨w.heap.size, 0, none⟩) 1 1] (w.alloc (.cells #[.slice r l.length cap] 92)) fun e w' => e = .returned .nilIface ∧ Below w.heap.size w w' from by
    have hb := grow_alloc (grow_refl w) (.cells #[.slice r l.length cap] 92)
    have K := Known.new w #[.slice r l.length cap] 92
    have h := lists_walk a w.heap.size 1 [⟨r, l, cap⟩] _ (hs.below hb) (by simp) (fun k hk => by
      obtain rfl : k = 0 := by simpa using hk
      exact ⟨K.cell 0, hr.below hb, by show l.length ≤ _; omega⟩)
    rw [show lsE [⟨r, l, cap⟩] = 0 by
      unfold lsE longB rowsB
      have : ¬ 4000 < l.length := by omega
      simp [this, hF], errV_zero] at h
    exact h.mono fun e w' ⟨h1, h2⟩ => ⟨h1, grow_trans hb h2⟩)
  have HR := Lib.hid hr
  have HF := Lib.hid hF
  clear hs hr hF
  go_enter Tryd.func51, Tryd.ntmps51
  go_wp2_with (go_at_call 93; (with_reducible refine SP.out.mono ?_); rintro e w1 ⟨rfl, hb⟩; have HB := Lib.hid hb; clear hb)
  go_loopw [5, 16] (fun v5 v16 wr => ∃ k : Nat, k ≤ l.length ∧ v5 = .int .i64 (lenUp l k) ∧ v16 = .int .i64 k ∧ Below w.heap.size w wr) (fun _ i _ => l.length - (intOf i).toNat)
  case atStart => exact ⟨0, Nat.zero_le _, rfl, rfl, HB.out⟩
  case round =>
    obtain ⟨k, hk, rfl, rfl, hg⟩ := hrel
    have G := Lib.hid hg
    clear hg
    have hz := G.out.size
    obtain ⟨s1, s2, _⟩ := lenUp_le HF.out k hk
    by_cases hlt : k < l.length
    · have SP2 := HR.out.below G.out
      obtain ⟨b1, o1, rfl, hc⟩ := SP2.resolve_left (by intro h; rw [h] at hlt; exact absurd hlt (by simp))
      obtain ⟨d0, d1⟩ := hc k hlt
      obtain ⟨a1, a2, a3, _⟩ := fine_at HF.out k hlt
      have HS := Lib.hid (show lenUp l (k + 1) = lenUp l k + (l[k].2 - l[k].1) by rw [lenUp]; simp [hlt])
      have hb1 : b1 < wr.heap.size := lt_of_cellS d0
      have hi0 : (0 : Int) ≤ (k : Int) := by omega
      have hi1 : (k : Int) < (l.length : Int) := by omega
      clear hc SP2
      generalize l[k] = x at d0 d1 a1 a2 a3 HS
      obtain ⟨xa, xb⟩ := x
      simp only at d0 d1 a1 a2 a3
      have HS2 := Lib.hid (show lenUp l k + (xb - xa) = lenUp l (k + 1) from HS.out.symm)
      generalize lenUp l k = s at s1 s2 HS2 ⊢
      go_wp2
      go_roundw
      case rel => exact ⟨k + 1, by omega, by rw [← HS2.out], by go_num, by (repeat (with_reducible first | exact grow_refl _ | exact G.out | refine Grow.grow_drewN ?_ _ | refine Grow.grow_drew ?_ | refine Grow.grow_setCell ?_ ?_ _ | refine Grow.grow_alloc ?_ _)) <;> omega⟩
      case measure => simp [intOf]; omega
    · obtain rfl : k = l.length := by omega
      go_wp2
      go_ret2
      exact ⟨rfl, G.out⟩
set_option maxRecDepth 100000 in
set_option maxHeartbeats 8000000 in
theorem long_no (a : Nat → Addr) (r : Option Addr) (l : List (Int × Int)) (cap : Nat) (w : World) (hs : Sen a [2, 5] w) (hl : l.length ≤ 9223372036854775807) (hr : SpAt w r l) (hE : lsE [⟨r, l, cap⟩] ≠ 0) :
    Calls Tryd.prog 51 #[.slice r l.length cap] w fun e w' => e = .returned (.tuple #[.int .i64 0, errV a (lsE [⟨r, l, cap⟩])]) ∧ Below w.heap.size w w' := by
  have SP := Lib.hid (show Calls Tryd.prog 93 #[.slice (some ⟨w.heap.size, 0, none⟩) 1 1] (w.alloc (.cells #[.slice r l.length cap] 92)) fun e w' => e = .returned (errV a (lsE [⟨r, l, cap⟩])) ∧ Below w.heap.size w w' from by
    have hb := grow_alloc (grow_refl w) (.cells #[.slice r l.length cap] 92)
    have K := Known.new w #[.slice r l.length cap] 92
    have h := lists_walk a w.heap.size 1 [⟨r, l, cap⟩] _ (hs.below hb) (by simp) (fun k hk => by
      obtain rfl : k = 0 := by simpa using hk
      exact ⟨K.cell 0, hr.below hb, hl⟩)
    exact h.mono fun e w' ⟨h1, h2⟩ => ⟨h1, grow_trans hb h2⟩)
  have hu := errV_pos a hE
  rw [hu] at SP ⊢
  clear hs hr hE hu
  go_enter Tryd.func51, Tryd.ntmps51
  go_wp2_with (go_at_call 93; (with_reducible refine SP.out.mono ?_); rintro e w1 ⟨rfl, hb⟩; have HB := Lib.hid hb; clear hb)
  go_ret2
  exact ⟨rfl, HB.out⟩
end Go.Proofs.YtlfpfeidaohjmaaDoor
