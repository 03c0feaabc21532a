/- Spans: whether a list is right, the document's. -/
import Derived.Test.YtjjjbkehmnfgbaaDoorNs2
set_option linter.unusedSimpArgs false
set_option linter.unusedVariables false
namespace Go.Proofs.YtjjjbkehmnfgbaaDoor
open Go.RowKit Go.Grow

def okAt (l : List (Int × Int)) (k : Nat) : Bool :=
  decide ((l.getD k (0, 0)).1 < (l.getD k (0, 0)).2) && decide (-1152921504606846976 ≤ (l.getD k (0, 0)).1) && decide ((l.getD k (0, 0)).2 ≤ 1152921504606846976) && (k == 0 || decide ((l.getD (k - 1) (0, 0)).2 < (l.getD k (0, 0)).1))
def okUp (l : List (Int × Int)) : Nat → Bool
  | 0 => true
  | k + 1 => okUp l k && okAt l k
def fineB (l : List (Int × Int)) : Bool := okUp l l.length
theorem okUp_false {l : List (Int × Int)} {k : Nat} (h : okUp l k = false) : ∀ m, k ≤ m → okUp l m = false
  | 0, hm => by obtain rfl : k = 0 := by omega
                exact h
  | m + 1, hm => by
    rcases Nat.lt_or_ge m k with h1 | h1
    · obtain rfl : k = m + 1 := by omega
      exact h
    · rw [okUp, okUp_false h m h1]; rfl
theorem fineB_false {l : List (Int × Int)} {k : Nat} (hk : k < l.length) (h : okAt l k = false) : fineB l = false :=
  okUp_false (k := k + 1) (by rw [okUp, h, Bool.and_false]) _ hk
theorem okAt_zero {l : List (Int × Int)} {k : Nat} {xa xb : Int} (hk : k < l.length) (hx : l[k] = (xa, xb)) (h0 : k = 0) : okAt l k = (decide (xa < xb) && decide (-1152921504606846976 ≤ xa) && decide (xb ≤ 1152921504606846976)) := by
  unfold okAt
  rw [show l.getD k (0, 0) = (xa, xb) by simp [hk, hx], h0]
  simp
theorem okAt_pos {l : List (Int × Int)} {k j : Nat} {xa xb ya yb : Int} (hk : k < l.length) (hx : l[k] = (xa, xb)) (hj : j + 1 = k) (hy : l[j]'(by omega) = (ya, yb)) : okAt l k = (decide (xa < xb) && decide (-1152921504606846976 ≤ xa) && decide (xb ≤ 1152921504606846976) && decide (yb < xa)) := by
  unfold okAt
  rw [show l.getD k (0, 0) = (xa, xb) by simp [hk, hx], show l.getD (k - 1) (0, 0) = (ya, yb) by
    rw [show k - 1 = j by omega]
    simp [show j < l.length by omega, hy]]
  have : (k == 0) = false := by simp; omega
  rw [this]; simp
set_option maxRecDepth 100000 in
set_option maxHeartbeats 8000000 in
theorem spansRight_walk (r : Option Addr) (l : List (Int × Int)) (cap : Nat) (w : World) (hl : l.length ≤ 1000000) (hr : SpAt w r l) :
    Calls Tryd.prog 70 #[.slice r l.length cap] w fun e w' => e = .returned (.bool (fineB l)) ∧ Below w.heap.size w w' := by
  have HR := Lib.hid hr
  clear hr
  go_enter Tryd.func70, Tryd.ntmps70
  go_wp2
  go_loopw [3] (fun v3 wr => ∃ k q : Nat, k ≤ l.length ∧ v3 = .int .i64 k ∧ wr = w.drewN q ∧ Hid (okUp l k = true)) (fun i _ => l.length - (intOf i).toNat)
  case atStart => exact ⟨0, 0, Nat.zero_le _, rfl, rfl, Lib.hid rfl⟩
  case round =>
    obtain ⟨k, q, hk, rfl, rfl, HI⟩ := hrel
    by_cases hlt : k < l.length
    · obtain ⟨b1, o1, rfl, hc⟩ := HR.out.resolve_left (by intro h; rw [h] at hlt; exact absurd hlt (by simp))
      obtain ⟨e0, e1⟩ := hc k hlt
      have hi0 : (0 : Int) ≤ (k : Int) := by omega
      have hi1 : (k : Int) < (l.length : Int) := by omega
      have HF := Lib.hid (fun (h : okAt l k = false) => fineB_false hlt h)
      have HT := Lib.hid (fun (h : okAt l k = true) => show okUp l (k + 1) = true by rw [okUp, HI.out, h]; rfl)
      obtain ⟨⟨xa, xb⟩, hx⟩ : ∃ x, l[k] = x := ⟨_, rfl⟩
      rw [hx] at e0 e1
      simp only at e0 e1
      rcases Nat.eq_zero_or_pos k with hk0 | hk0
      · have HO := Lib.hid (okAt_zero hlt hx hk0)
        have d3 : decide (0 < k) = false := decide_eq_false (by omega)
        clear hc hx hk0
        by_cases c1 : xb ≤ xa
        · have d1 : decide (xb ≤ xa) = true := decide_eq_true c1
          have HZ := Lib.hid (HF.out (by rw [HO.out, decide_eq_false (show ¬ xa < xb by omega)]; rfl))
          clear c1 HO HT HF
          go_wp2
          go_quiet (fail)
          go_wp2
          go_ret
          exact ⟨by rw [HZ.out]; rfl, by repeat (with_reducible first | exact grow_refl _ | refine Grow.grow_drewN ?_ _ | refine Grow.grow_drew ?_)⟩
        · have d1 : decide (xb ≤ xa) = false := decide_eq_false c1
          by_cases c2 : xa < -1152921504606846976
          · have d2 : decide (xa < -1152921504606846976) = true := decide_eq_true c2
            have HZ := Lib.hid (HF.out (by rw [HO.out, decide_eq_false (show ¬ -1152921504606846976 ≤ xa by omega)]; simp))
            clear c1 c2 HO HT HF
            go_wp2
            go_quiet (fail)
            go_wp2
            go_ret
            exact ⟨by rw [HZ.out]; rfl, by repeat (with_reducible first | exact grow_refl _ | refine Grow.grow_drewN ?_ _ | refine Grow.grow_drew ?_)⟩
          · have d2 : decide (xa < -1152921504606846976) = false := decide_eq_false c2
            by_cases c4 : 1152921504606846976 < xb
            · have d4 : decide (1152921504606846976 < xb) = true := decide_eq_true c4
              have HZ := Lib.hid (HF.out (by rw [HO.out, decide_eq_false (show ¬ xb ≤ 1152921504606846976 by omega)]; simp))
              clear c1 c2 c4 HO HT HF
              go_wp2
              go_quiet (fail)
              go_wp2
              go_ret
              exact ⟨by rw [HZ.out]; rfl, by repeat (with_reducible first | exact grow_refl _ | refine Grow.grow_drewN ?_ _ | refine Grow.grow_drew ?_)⟩
            · have d4 : decide (1152921504606846976 < xb) = false := decide_eq_false c4
              have HY := Lib.hid (HT.out (by rw [HO.out, decide_eq_true (show xa < xb by omega), decide_eq_true (show -1152921504606846976 ≤ xa by omega), decide_eq_true (show xb ≤ 1152921504606846976 by omega)]; rfl))
              clear c1 c2 c4 HO HT HF
              go_wp2
              go_quiet (fail)
              go_wp2
              go_quiet (fail)
              go_wp2
              go_roundw
              case rel => exact ⟨k + 1, _, by omega, by go_num, rfl, HY⟩
              case measure => simp [intOf]; omega
      · obtain ⟨j, hj⟩ : ∃ j, j + 1 = k := ⟨k - 1, by omega⟩
        obtain ⟨e2, e3⟩ := hc j (by omega)
        obtain ⟨⟨ya, yb⟩, hy⟩ : ∃ y, l[j]'(by omega) = y := ⟨_, rfl⟩
        rw [hy] at e2 e3
        simp only at e2 e3
        have HO := Lib.hid (okAt_pos hlt hx hj hy)
        have d3 : decide (0 < k) = true := decide_eq_true (by omega)
        have e4 : (k : Int) - 1 = (j : Int) := by omega
        have hj0 : (0 : Int) ≤ (j : Int) := by omega
        have hj1 : (j : Int) < (l.length : Int) := by omega
        clear hc hx hy
        by_cases c1 : xb ≤ xa
        · have d1 : decide (xb ≤ xa) = true := decide_eq_true c1
          have HZ := Lib.hid (HF.out (by rw [HO.out, decide_eq_false (show ¬ xa < xb by omega)]; rfl))
          clear c1 HO HT HF
          go_wp2
          go_quiet (fail)
          go_wp2
          go_ret
          exact ⟨by rw [HZ.out]; rfl, by repeat (with_reducible first | exact grow_refl _ | refine Grow.grow_drewN ?_ _ | refine Grow.grow_drew ?_)⟩
        · have d1 : decide (xb ≤ xa) = false := decide_eq_false c1
          by_cases c2 : xa < -1152921504606846976
          · have d2 : decide (xa < -1152921504606846976) = true := decide_eq_true c2
            have HZ := Lib.hid (HF.out (by rw [HO.out, decide_eq_false (show ¬ -1152921504606846976 ≤ xa by omega)]; simp))
            clear c1 c2 HO HT HF
            go_wp2
            go_quiet (fail)
            go_wp2
            go_ret
            exact ⟨by rw [HZ.out]; rfl, by repeat (with_reducible first | exact grow_refl _ | refine Grow.grow_drewN ?_ _ | refine Grow.grow_drew ?_)⟩
          · have d2 : decide (xa < -1152921504606846976) = false := decide_eq_false c2
            by_cases c4 : 1152921504606846976 < xb
            · have d4 : decide (1152921504606846976 < xb) = true := decide_eq_true c4
              have HZ := Lib.hid (HF.out (by rw [HO.out, decide_eq_false (show ¬ xb ≤ 1152921504606846976 by omega)]; simp))
              clear c1 c2 c4 HO HT HF
              go_wp2
              go_quiet (fail)
              go_wp2
              go_ret
              exact ⟨by rw [HZ.out]; rfl, by repeat (with_reducible first | exact grow_refl _ | refine Grow.grow_drewN ?_ _ | refine Grow.grow_drew ?_)⟩
            · have d4 : decide (1152921504606846976 < xb) = false := decide_eq_false c4
              by_cases c5 : xa ≤ yb
              · have d5 : decide (xa ≤ yb) = true := decide_eq_true c5
                have HZ := Lib.hid (HF.out (by rw [HO.out, decide_eq_false (show ¬ yb < xa by omega)]; simp))
                clear c1 c2 c4 c5 HO HT HF
                go_wp2
                go_quiet (fail)
                go_wp2
                go_quiet (fail)
                go_wp2
                go_ret
                exact ⟨by rw [HZ.out]; rfl, by repeat (with_reducible first | exact grow_refl _ | refine Grow.grow_drewN ?_ _ | refine Grow.grow_drew ?_)⟩
              · have d5 : decide (xa ≤ yb) = false := decide_eq_false c5
                have HY := Lib.hid (HT.out (by rw [HO.out, decide_eq_true (show xa < xb by omega), decide_eq_true (show -1152921504606846976 ≤ xa by omega), decide_eq_true (show xb ≤ 1152921504606846976 by omega), decide_eq_true (show yb < xa by omega)]; rfl))
                clear c1 c2 c4 c5 HO HT HF
                go_wp2
                go_quiet (fail)
                go_wp2
                go_quiet (fail)
                go_wp2
                go_roundw
                case rel => exact ⟨k + 1, _, by omega, by go_num, rfl, HY⟩
                case measure => simp [intOf]; omega
    · obtain rfl : k = l.length := by omega
      have HZ := Lib.hid (show fineB l = true from HI.out)
      go_wp2
      go_ret
      exact ⟨by rw [HZ.out]; rfl, by repeat (with_reducible first | exact grow_refl _ | refine Grow.grow_drewN ?_ _ | refine Grow.grow_drew ?_)⟩
def spE (a b : List (Int × Int)) : Nat := if 4000 < a.length ∨ 4000 < b.length then 2 else if fineB a && fineB b then 0 else 5
set_option maxRecDepth 100000 in
set_option maxHeartbeats 8000000 in
theorem spansError_walk (r1 r2 : Option Addr) (a b : List (Int × Int)) (cap1 cap2 : Nat) (w : World) (ha : a.length ≤ 9223372036854775807) (hb : b.length ≤ 9223372036854775807) (h1 : SpAt w r1 a) (h2 : SpAt w r2 b) :
    Calls Tryd.prog 42 #[.slice r1 a.length cap1, .slice r2 b.length cap2] w fun e w' => e = .returned (.int .i64 (spE a b : Nat)) ∧ Below w.heap.size w w' := by
  unfold spE
  by_cases c1 : 4000 < a.length
  · rw [if_pos (.inl c1)]
    go_enter Tryd.func42, Tryd.ntmps42
    go_wp2
    go_ret
    exact ⟨rfl, grow_refl _⟩
  · by_cases c2 : 4000 < b.length
    · rw [if_pos (.inr c2)]
      go_enter Tryd.func42, Tryd.ntmps42
      go_wp2
      go_ret
      exact ⟨rfl, grow_refl _⟩
    · rw [if_neg (by omega)]
      have SA := Lib.hid (fun X (hX : Below w.heap.size w X) => spansRight_walk r1 a cap1 X (by omega) (h1.below hX))
      have SB := Lib.hid (fun X (hX : Below w.heap.size w X) => spansRight_walk r2 b cap2 X (by omega) (h2.below hX))
      clear h1 h2
      generalize fineB a = x at SA ⊢
      generalize fineB b = y at SB ⊢
      cases x <;> cases y
      all_goals
        go_enter Tryd.func42, Tryd.ntmps42
        have s0 := trivial
        go_wp2_with (first
          | (clear s0; go_at_call 70; (with_reducible refine (SA.out _ (grow_refl _)).mono ?_); rintro e w1 ⟨rfl, hb1⟩; have HB1 := Lib.hid hb1; clear hb1; have s1 := trivial)
          | (clear s1; go_at_call 70; (with_reducible refine (SB.out _ HB1.out).mono ?_); rintro e w2 ⟨rfl, hb2⟩; have HB2 := Lib.hid (grow_trans HB1.out hb2); clear hb2))
        go_ret
        exact ⟨rfl, HB2.out⟩
end Go.Proofs.YtjjjbkehmnfgbaaDoor
