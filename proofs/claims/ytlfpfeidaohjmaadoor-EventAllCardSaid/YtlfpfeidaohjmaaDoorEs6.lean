/- Spans: whether a list is right, the document's. -/
import Derived.Test.YtlfpfeidaohjmaaDoorEs2
import Derived.Test.YtlfpfeidaohjmaaDoorShl3
set_option linter.unusedSimpArgs false
set_option linter.unusedVariables false
namespace Go.Proofs.YtlfpfeidaohjmaaDoor
open Go.RowKit Go.Grow

def okAt (l : List (Int × Int)) (k : Nat) : Bool :=
  decide ((l.getD k (0, 0)).1 < (l.getD k (0, 0)).2) && decide (-1152921504606846976 ≤ (l.getD k (0, 0)).1) && decide ((l.getD k (0, 0)).2 ≤ 1152921504606846976) && (k == 0 || decide ((l.getD (k - 1) (0, 0)).2 < (l.getD k (0, 0)).1))
def okUp (l : List (Int × Int)) : Nat → Bool
  | 0 => true
  | k + 1 => okUp l k && okAt l k
def fineB (l : List (Int × Int)) : Bool := okUp l l.length
theorem okUp_false {l : List (Int × Int)} {k : Nat} (h : okUp l k = false) : ∀ m, k ≤ m → okUp l m = false
  | 0, hm => by obtain rfl : k = 0 := by omega
                exact h
  | m + 1, hm => by
    rcases Nat.lt_or_ge m k with h1 | h1
    · obtain rfl : k = m + 1 := by omega
      exact h
    · rw [okUp, okUp_false h m h1]; rfl
theorem fineB_false {l : List (Int × Int)} {k : Nat} (hk : k < l.length) (h : okAt l k = false) : fineB l = false :=
  okUp_false (k := k + 1) (by rw [okUp, h, Bool.and_false]) _ hk
theorem okAt_zero {l : List (Int × Int)} {k : Nat} {xa xb : Int} (hk : k < l.length) (hx : l[k] = (xa, xb)) (h0 : k = 0) : okAt l k = (decide (xa < xb) && decide (-1152921504606846976 ≤ xa) && decide (xb ≤ 1152921504606846976)) := by
  unfold okAt
  rw [show l.getD k (0, 0) = (xa, xb) by simp [hk, hx], h0]
  simp
theorem okAt_pos {l : List (Int × Int)} {k j : Nat} {xa xb ya yb : Int} (hk : k < l.length) (hx : l[k] = (xa, xb)) (hj : j + 1 = k) (hy : l[j]'(by omega) = (ya, yb)) : okAt l k = (decide (xa < xb) && decide (-1152921504606846976 ≤ xa) && decide (xb ≤ 1152921504606846976) && decide (yb < xa)) := by
  unfold okAt
  rw [show l.getD k (0, 0) = (xa, xb) by simp [hk, hx], show l.getD (k - 1) (0, 0) = (ya, yb) by
    rw [show k - 1 = j by omega]
    simp [show j < l.length by omega, hy]]
  have : (k == 0) = false := by simp; omega
  rw [this]; simp
set_option maxRecDepth 100000 in
set_option maxHeartbeats 8000000 in
theorem spansRight_walk (r : Option Addr) (l : List (Int × Int)) (cap : Nat) (w : World) (hl : l.length ≤ 1000000) (hr : SpAt w r l) :
    Calls Tryd.prog 94 #[.slice r l.length cap] w fun e w' => e = .returned (.bool (fineB l)) ∧ Below w.heap.size w w' := by
  have HR := Lib.hid hr
  clear hr
  go_enter Tryd.func94, Tryd.ntmps94
  go_wp2
  go_loopw [3] (fun v3 wr => ∃ k q : Nat, k ≤ l.length ∧ v3 = .int .i64 k ∧ wr = w.drewN q ∧ Hid (okUp l k = true)) (fun i _ => l.length - (intOf i).toNat)
  case atStart => exact ⟨0, 0, Nat.zero_le _, rfl, rfl, Lib.hid rfl⟩
  case round =>
    obtain ⟨k, q, hk, rfl, rfl, HI⟩ := hrel
    by_cases hlt : k < l.length
    · obtain ⟨b1, o1, rfl, hc⟩ := HR.out.resolve_left (by intro h; rw [h] at hlt; exact absurd hlt (by simp))
      obtain ⟨e0, e1⟩ := hc k hlt
      have hi0 : (0 : Int) ≤ (k : Int) := by omega
      have hi1 : (k : Int) < (l.length : Int) := by omega
      have HF := Lib.hid (fun (h : okAt l k = false) => fineB_false hlt h)
      have HT := Lib.hid (fun (h : okAt l k = true) => show okUp l (k + 1) = true by rw [okUp, HI.out, h]; rfl)
      obtain ⟨⟨xa, xb⟩, hx⟩ : ∃ x, l[k] = x := ⟨_, rfl⟩
      rw [hx] at e0 e1
      simp only at e0 e1
      rcases Nat.eq_zero_or_pos k with hk0 | hk0
      · have HO := Lib.hid (okAt_zero hlt hx hk0)
        have d3 : decide (0 < k) = false := decide_eq_false (by omega)
        clear hc hx hk0
        by_cases c1 : xb ≤ xa
        · have d1 : decide (xb ≤ xa) = true := decide_eq_true c1
          have HZ := Lib.hid (HF.out (by rw [HO.out, decide_eq_false (show ¬ xa < xb by omega)]; rfl))
          clear c1 HO HT HF
          go_wp2
          go_quiet (fail)
          go_wp2
          go_ret
          exact ⟨by rw [HZ.out]; rfl, by repeat (with_reducible first | exact grow_refl _ | refine Grow.grow_drewN ?_ _ | refine Grow.grow_drew ?_)⟩
        · have d1 : decide (xb ≤ xa) = false := decide_eq_false c1
          by_cases c2 : xa < -1152921504606846976
          · have d2 : decide (xa < -1152921504606846976) = true := decide_eq_true c2
            have HZ := Lib.hid (HF.out (by rw [HO.out, decide_eq_false (show ¬ -1152921504606846976 ≤ xa by omega)]; simp))
            clear c1 c2 HO HT HF
            go_wp2
            go_quiet (fail)
            go_wp2
            go_ret
            exact ⟨by rw [HZ.out]; rfl, by repeat (with_reducible first | exact grow_refl _ | refine Grow.grow_drewN ?_ _ | refine Grow.grow_drew ?_)⟩
          · have d2 : decide (xa < -1152921504606846976) = false := decide_eq_false c2
            by_cases c4 : 1152921504606846976 < xb
            · have d4 : decide (1152921504606846976 < xb) = true := decide_eq_true c4
              have HZ := Lib.hid (HF.out (by rw [HO.out, decide_eq_false (show ¬ xb ≤ 1152921504606846976 by omega)]; simp))
              clear c1 c2 c4 HO HT HF
              go_wp2
              go_quiet (fail)
              go_wp2
              go_ret
              exact ⟨by rw [HZ.out]; rfl, by repeat (with_reducible first | exact grow_refl _ | refine Grow.grow_drewN ?_ _ | refine Grow.grow_drew ?_)⟩
            · have d4 : decide (1152921504606846976 < xb) = false := decide_eq_false c4
              have HY := Lib.hid (HT.out (by rw [HO.out, decide_eq_true (show xa < xb by omega), decide_eq_true (show -1152921504606846976 ≤ xa by omega), decide_eq_true (show xb ≤ 1152921504606846976 by omega)]; rfl))
              clear c1 c2 c4 HO HT HF
              go_wp2
              go_quiet (fail)
              go_wp2
              go_quiet (fail)
              go_wp2
              go_roundw
              case rel => exact ⟨k + 1, _, by omega, by go_num, rfl, HY⟩
              case measure => simp [intOf]; omega
      · obtain ⟨j, hj⟩ : ∃ j, j + 1 = k := ⟨k - 1, by omega⟩
        obtain ⟨e2, e3⟩ := hc j (by omega)
        obtain ⟨⟨ya, yb⟩, hy⟩ : ∃ y, l[j]'(by omega) = y := ⟨_, rfl⟩
        rw [hy] at e2 e3
        simp only at e2 e3
        have HO := Lib.hid (okAt_pos hlt hx hj hy)
        have d3 : decide (0 < k) = true := decide_eq_true (by omega)
        have e4 : (k : Int) - 1 = (j : Int) := by omega
        have hj0 : (0 : Int) ≤ (j : Int) := by omega
        have hj1 : (j : Int) < (l.length : Int) := by omega
        clear hc hx hy
        by_cases c1 : xb ≤ xa
        · have d1 : decide (xb ≤ xa) = true := decide_eq_true c1
          have HZ := Lib.hid (HF.out (by rw [HO.out, decide_eq_false (show ¬ xa < xb by omega)]; rfl))
          clear c1 HO HT HF
          go_wp2
          go_quiet (fail)
          go_wp2
          go_ret
          exact ⟨by rw [HZ.out]; rfl, by repeat (with_reducible first | exact grow_refl _ | refine Grow.grow_drewN ?_ _ | refine Grow.grow_drew ?_)⟩
        · have d1 : decide (xb ≤ xa) = false := decide_eq_false c1
          by_cases c2 : xa < -1152921504606846976
          · have d2 : decide (xa < -1152921504606846976) = true := decide_eq_true c2
            have HZ := Lib.hid (HF.out (by rw [HO.out, decide_eq_false (show ¬ -1152921504606846976 ≤ xa by omega)]; simp))
            clear c1 c2 HO HT HF
            go_wp2
            go_quiet (fail)
            go_wp2
            go_ret
            exact ⟨by rw [HZ.out]; rfl, by repeat (with_reducible first | exact grow_refl _ | refine Grow.grow_drewN ?_ _ | refine Grow.grow_drew ?_)⟩
          · have d2 : decide (xa < -1152921504606846976) = false := decide_eq_false c2
            by_cases c4 : 1152921504606846976 < xb
            · have d4 : decide (1152921504606846976 < xb) = true := decide_eq_true c4
              have HZ := Lib.hid (HF.out (by rw [HO.out, decide_eq_false (show ¬ xb ≤ 1152921504606846976 by omega)]; simp))
              clear c1 c2 c4 HO HT HF
              go_wp2
              go_quiet (fail)
              go_wp2
              go_ret
              exact ⟨by rw [HZ.out]; rfl, by repeat (with_reducible first | exact grow_refl _ | refine Grow.grow_drewN ?_ _ | refine Grow.grow_drew ?_)⟩
            · have d4 : decide (1152921504606846976 < xb) = false := decide_eq_false c4
              by_cases c5 : xa ≤ yb
              · have d5 : decide (xa ≤ yb) = true := decide_eq_true c5
                have HZ := Lib.hid (HF.out (by rw [HO.out, decide_eq_false (show ¬ yb < xa by omega)]; simp))
                clear c1 c2 c4 c5 HO HT HF
                go_wp2
                go_quiet (fail)
                go_wp2
                go_quiet (fail)
                go_wp2
                go_ret
                exact ⟨by rw [HZ.out]; rfl, by repeat (with_reducible first | exact grow_refl _ | refine Grow.grow_drewN ?_ _ | refine Grow.grow_drew ?_)⟩
              · have d5 : decide (xa ≤ yb) = false := decide_eq_false c5
                have HY := Lib.hid (HT.out (by rw [HO.out, decide_eq_true (show xa < xb by omega), decide_eq_true (show -1152921504606846976 ≤ xa by omega), decide_eq_true (show xb ≤ 1152921504606846976 by omega), decide_eq_true (show yb < xa by omega)]; rfl))
                clear c1 c2 c4 c5 HO HT HF
                go_wp2
                go_quiet (fail)
                go_wp2
                go_quiet (fail)
                go_wp2
                go_roundw
                case rel => exact ⟨k + 1, _, by omega, by go_num, rfl, HY⟩
                case measure => simp [intOf]; omega
    · obtain rfl : k = l.length := by omega
      have HZ := Lib.hid (show fineB l = true from HI.out)
      go_wp2
      go_ret
      exact ⟨by rw [HZ.out]; rfl, by repeat (with_reducible first | exact grow_refl _ | refine Grow.grow_drewN ?_ _ | refine Grow.grow_drew ?_)⟩
def spE (a b : List (Int × Int)) : Nat := if 4000 < a.length ∨ 4000 < b.length then 2 else if fineB a && fineB b then 0 else 5
set_option maxRecDepth 100000 in
set_option maxHeartbeats 8000000 in
theorem spansError_walk (r1 r2 : Option Addr) (a b : List (Int × Int)) (cap1 cap2 : Nat) (w : World) (ha : a.length ≤ 9223372036854775807) (hb : b.length ≤ 9223372036854775807) (h1 : SpAt w r1 a) (h2 : SpAt w r2 b) :
    Calls Tryd.prog 52 #[.slice r1 a.length cap1, .slice r2 b.length cap2] w fun e w' => e = .returned (.int .i64 (spE a b : Nat)) ∧ Below w.heap.size w w' := by
  unfold spE
  by_cases c1 : 4000 < a.length
  · rw [if_pos (.inl c1)]
    go_enter Tryd.func52, Tryd.ntmps52
    go_wp2
    go_ret
    exact ⟨rfl, grow_refl _⟩
  · by_cases c2 : 4000 < b.length
    · rw [if_pos (.inr c2)]
      go_enter Tryd.func52, Tryd.ntmps52
      go_wp2
      go_ret
      exact ⟨rfl, grow_refl _⟩
    · rw [if_neg (by omega)]
      have SA := Lib.hid (fun X (hX : Below w.heap.size w X) => spansRight_walk r1 a cap1 X (by omega) (h1.below hX))
      have SB := Lib.hid (fun X (hX : Below w.heap.size w X) => spansRight_walk r2 b cap2 X (by omega) (h2.below hX))
      clear h1 h2
      generalize fineB a = x at SA ⊢
      generalize fineB b = y at SB ⊢
      cases x <;> cases y
      all_goals
        go_enter Tryd.func52, Tryd.ntmps52
        have s0 := trivial
        go_wp2_with (first
          | (clear s0; go_at_call 94; (with_reducible refine (SA.out _ (grow_refl _)).mono ?_); rintro e w1 ⟨rfl, hb1⟩; have HB1 := Lib.hid hb1; clear hb1; have s1 := trivial)
          | (clear s1; go_at_call 94; (with_reducible refine (SB.out _ HB1.out).mono ?_); rintro e w2 ⟨rfl, hb2⟩; have HB2 := Lib.hid (grow_trans HB1.out hb2); clear hb2))
        go_ret
        exact ⟨rfl, HB2.out⟩
end Go.Proofs.YtlfpfeidaohjmaaDoor
/- Spans: whether lists are right, the program's. -/
set_option linter.unusedSimpArgs false
set_option linter.unusedVariables false
namespace Go.Proofs.YtlfpfeidaohjmaaDoor
open Go.RowKit Go.Grow

structure Row where
  r : Option Addr
  l : List (Int × Int)
  cap : Nat
/-- Rows of spans lie at block B. -/
def RowsAt (w : World) (B : Nat) (L : List Row) : Prop := ∀ k (h : k < L.length), w.cell? ⟨B, k, none⟩ = some (.slice L[k].r L[k].l.length L[k].cap) ∧ SpAt w L[k].r L[k].l ∧ L[k].l.length ≤ 9223372036854775807
theorem RowsAt.below {w w' : World} {B : Nat} {L : List Row} (h : RowsAt w B L) (hb : Below w.heap.size w w') : RowsAt w' B L := fun k hk => by
  obtain ⟨c, h1, h2⟩ := h k hk
  have hl : B < w.heap.size := lt_of_cellS c
  exact ⟨(hb.cell (p := ⟨B, k, none⟩) hl).trans c, h1.below hb, h2⟩
def longB (L : List Row) : Bool := L.any fun x => decide (4000 < x.l.length)
def rowsB (L : List Row) : Bool := L.all fun x => fineB x.l
def lsE (L : List Row) : Nat := if longB L then 2 else if rowsB L then 0 else 5
theorem longB_at {L : List Row} {k : Nat} (hk : k < L.length) (h : 4000 < L[k].l.length) : longB L = true := by
  unfold longB
  rw [List.any_eq_true]
  exact ⟨L[k], List.getElem_mem hk, by simpa using h⟩
theorem rowsB_at {L : List Row} {k : Nat} (hk : k < L.length) (h : fineB L[k].l = false) : rowsB L = false := by
  cases hh : rowsB L with
  | false => rfl
  | true =>
    unfold rowsB at hh
    rw [List.all_eq_true] at hh
    rw [hh _ (List.getElem_mem hk)] at h
    cases h
theorem longB_not {L : List Row} (h : ∀ k (hk : k < L.length), L[k].l.length ≤ 4000) : longB L = false := by
  cases hh : longB L with
  | false => rfl
  | true =>
    unfold longB at hh
    rw [List.any_eq_true] at hh
    obtain ⟨x, hx, h2⟩ := hh
    obtain ⟨k, hk, rfl⟩ := List.mem_iff_getElem.1 hx
    have := h k hk
    simp at h2
    omega
theorem rowsB_yes {L : List Row} (h : ∀ k (hk : k < L.length), fineB L[k].l = true) : rowsB L = true := by
  unfold rowsB
  rw [List.all_eq_true]
  intro x hx
  obtain ⟨k, hk, rfl⟩ := List.mem_iff_getElem.1 hx
  exact h k hk
set_option maxRecDepth 100000 in
set_option maxHeartbeats 8000000 in
theorem lists_walk (a : Nat → Addr) (B cap : Nat) (L : List Row) (w : World) (hs : Sen a [2, 5] w) (hL : L.length ≤ 2) (hr : RowsAt w B L) :
    Calls Tryd.prog 93 #[.slice (some ⟨B, 0, none⟩) L.length cap] w fun e w' => e = .returned (errV a (lsE L)) ∧ Below w.heap.size w w' := by
  have HR := Lib.hid hr
  have HE2 := Lib.hid (errV_pos a (show 2 ≠ 0 by decide))
  have HE5 := Lib.hid (errV_pos a (show 5 ≠ 0 by decide))
  have HS := Lib.hid hs
  have c2 := (hs 2 (by decide)).1
  simp only [gOf] at c2
  have hlt2 := lt_of_cellS c2
  clear hs hr
  go_enter Tryd.func93, Tryd.ntmps93
  go_wp2
  go_loopw [11] (fun v11 wr => ∃ k : Nat, k ≤ L.length ∧ v11 = .int .i64 k ∧ w = wr ∧ Hid (∀ i (hi : i < L.length), i < k → L[i].l.length ≤ 4000)) (fun i _ => L.length - (intOf i).toNat)
  case atStart => exact ⟨0, Nat.zero_le _, rfl, rfl, Lib.hid fun i hi h => absurd h (by omega)⟩
  case round =>
    obtain ⟨k, hk, rfl, rfl, HI⟩ := hrel
    by_cases hlt : k < L.length
    · obtain ⟨e0, _, e2⟩ := HR.out k hlt
      have hi0 : (0 : Int) ≤ (k : Int) := by omega
      have hi1 : (k : Int) < (L.length : Int) := by omega
      by_cases c : 4000 < L[k].l.length
      · have HZ := Lib.hid (show lsE L = 2 by unfold lsE; rw [longB_at hlt c]; rfl)
        generalize L[k] = x at e0 e2 c
        go_wp2
        go_ret
        exact ⟨by rw [HZ.out, HE2.out]; rfl, by repeat (with_reducible first | exact grow_refl _ | refine Grow.grow_drewN ?_ _ | refine Grow.grow_drew ?_)⟩
      · have HJ := Lib.hid (show ∀ i (hi : i < L.length), i < k + 1 → L[i].l.length ≤ 4000 from fun i hi h => by
          rcases Nat.lt_or_ge i k with h1 | h1
          · exact HI.out i hi h1
          · obtain rfl : i = k := by omega
            omega)
        generalize L[k] = x at e0 e2 c
        go_wp2
        go_roundw
        case rel => exact ⟨k + 1, by omega, by go_num, trivial, HJ⟩
        case measure => simp [intOf]; omega
    · obtain rfl : k = L.length := by omega
      have HN := Lib.hid (longB_not fun i hi => HI.out i hi hi)
      have HI3 := Lib.hid (show ∀ i (hi : i < L.length), L[i].l.length ≤ 4000 from fun i hi => HI.out i hi hi)
      clear HI
      go_wp2
      go_loopw [22] (fun v22 wr => ∃ k : Nat, k ≤ L.length ∧ v22 = .int .i64 k ∧ Hid (∀ i (hi : i < L.length), i < k → fineB L[i].l = true) ∧ Below w.heap.size w wr) (fun i _ => L.length - (intOf i).toNat)
      case atStart => exact ⟨0, Nat.zero_le _, rfl, Lib.hid fun i hi h => absurd h (by omega), grow_refl _⟩
      case round =>
        obtain ⟨k, hk, rfl, HI, hg⟩ := hrel
        have G := Lib.hid hg
        clear hg
        by_cases hlt : k < L.length
        · obtain ⟨e0, e1, e2⟩ := HR.out k hlt
          replace e0 := (G.out.cell (p := ⟨B, k, none⟩) (lt_of_cellS e0)).trans e0
          have E1 := Lib.hid (e1.below G.out)
          have hi0 : (0 : Int) ≤ (k : Int) := by omega
          have hi1 : (k : Int) < (L.length : Int) := by omega
          have e3 := HI3.out k hlt
          have HF := Lib.hid (fun h : fineB L[k].l = false => show lsE L = 5 by unfold lsE; rw [HN.out, rowsB_at hlt h]; rfl)
          have HJ := Lib.hid (show fineB L[k].l = true → ∀ i (hi : i < L.length), i < k + 1 → fineB L[i].l = true from fun h0 i hi h => by
            rcases Nat.lt_or_ge i k with h1 | h1
            · exact HI.out i hi h1
            · obtain rfl : i = k := by omega
              exact h0)
          clear e1 HI
          generalize L[k] = x at e0 e2 e3 E1 HF HJ
          obtain ⟨r, l, c⟩ := x
          simp only at e0 e2 e3
          have GV := G
          clear G
          go_wp2
          go_loopw [28] (fun v28 wr' => ∃ j : Nat, j ≤ l.length ∧ v28 = .int .i64 j ∧ Hid (okUp l j = true) ∧ Below w.heap.size w wr' ∧ SpAt wr' r l) (fun i _ => l.length - (intOf i).toNat)
          case atStart => exact ⟨0, Nat.zero_le _, rfl, Lib.hid rfl, GV.out, E1.out⟩
          case round =>
            clear GV E1
            obtain ⟨j, hj, rfl, HO, hg, hsp⟩ := hrel
            have G := Lib.hid hg
            have SP := Lib.hid hsp
            clear hg hsp
            have hz := G.out.size
            have c2 := (HS.out.below G.out 2 (by decide)).1
            have c5 := (HS.out.below G.out 5 (by decide)).1
            simp only [gOf] at c2 c5
            have g5 : 2 < wr.heap.size := lt_of_cellS c5
            have g6 : ¬ (wr.heap.size = 2) := by omega
            have g7 : ¬ (2 = wr.heap.size) := by omega
            by_cases hlt2 : j < l.length
            · obtain ⟨b1, o1, rfl, hc⟩ := SP.out.resolve_left (by intro h; rw [h] at hlt2; exact absurd hlt2 (by simp))
              obtain ⟨d0, d1⟩ := hc j hlt2
              have hb1 : b1 < wr.heap.size := lt_of_cellS d0
              obtain ⟨⟨xa, xb⟩, hx⟩ : ∃ x, l[j] = x := ⟨_, rfl⟩
              rw [hx] at d0 d1
              simp only at d0 d1
              have FZ := Lib.hid (fun (h : okAt l j = false) => HF.out (fineB_false hlt2 h))
              have FY := Lib.hid (fun (h : okAt l j = true) => show okUp l (j + 1) = true by rw [okUp, HO.out, h]; rfl)
              have hj0 : (0 : Int) ≤ (j : Int) := by omega
              have hj1 : (j : Int) < (l.length : Int) := by omega
              clear HF HJ HO e0
              rcases Nat.eq_zero_or_pos j with hk0 | hk0
              · have OA := Lib.hid (okAt_zero hlt2 hx hk0)
                have t3 : decide (0 < j) = false := decide_eq_false (by omega)
                clear hc hx hk0
                by_cases c1 : xb ≤ xa
                · have tc1 : decide (xb ≤ xa) = true := decide_eq_true c1
                  have HZ := Lib.hid (FZ.out (by rw [OA.out, decide_eq_false (show ¬ xa < xb by omega)]; simp))
                  clear FZ FY OA HS HI3
                  go_wp2
                  go_quiet (fail)
                  go_wp2
                  go_ret
                  exact ⟨by rw [HZ.out, HE5.out]; rfl, by (repeat (with_reducible first | exact grow_refl _ | exact G.out | refine Grow.grow_drewN ?_ _ | refine Grow.grow_drew ?_ | refine Grow.grow_setCell ?_ ?_ _ | refine Grow.grow_alloc ?_ _)) <;> omega⟩
                · have tc1 : decide (xb ≤ xa) = false := decide_eq_false c1
                  by_cases c2 : xa < -1152921504606846976
                  · have tc2 : decide (xa < -1152921504606846976) = true := decide_eq_true c2
                    have HZ := Lib.hid (FZ.out (by rw [OA.out, decide_eq_false (show ¬ -1152921504606846976 ≤ xa by omega)]; simp))
                    clear FZ FY OA HS HI3
                    go_wp2
                    go_quiet (fail)
                    go_wp2
                    go_ret
                    exact ⟨by rw [HZ.out, HE5.out]; rfl, by (repeat (with_reducible first | exact grow_refl _ | exact G.out | refine Grow.grow_drewN ?_ _ | refine Grow.grow_drew ?_ | refine Grow.grow_setCell ?_ ?_ _ | refine Grow.grow_alloc ?_ _)) <;> omega⟩
                  · have tc2 : decide (xa < -1152921504606846976) = false := decide_eq_false c2
                    by_cases c4 : 1152921504606846976 < xb
                    · have tc4 : decide (1152921504606846976 < xb) = true := decide_eq_true c4
                      have HZ := Lib.hid (FZ.out (by rw [OA.out, decide_eq_false (show ¬ xb ≤ 1152921504606846976 by omega)]; simp))
                      clear FZ FY OA HS HI3
                      go_wp2
                      go_quiet (fail)
                      go_wp2
                      go_ret
                      exact ⟨by rw [HZ.out, HE5.out]; rfl, by (repeat (with_reducible first | exact grow_refl _ | exact G.out | refine Grow.grow_drewN ?_ _ | refine Grow.grow_drew ?_ | refine Grow.grow_setCell ?_ ?_ _ | refine Grow.grow_alloc ?_ _)) <;> omega⟩
                    · have tc4 : decide (1152921504606846976 < xb) = false := decide_eq_false c4
                      have HY := Lib.hid (FY.out (by rw [OA.out, decide_eq_true (show xa < xb by omega), decide_eq_true (show -1152921504606846976 ≤ xa by omega), decide_eq_true (show xb ≤ 1152921504606846976 by omega)]; rfl))
                      clear FZ FY OA HS HI3
                      go_wp2
                      go_quiet (fail)
                      go_wp2
                      go_roundw
                      case rel => exact ⟨j + 1, by omega, by go_num, HY, by (repeat (with_reducible first | exact grow_refl _ | exact G.out | refine Grow.grow_drewN ?_ _ | refine Grow.grow_drew ?_ | refine Grow.grow_setCell ?_ ?_ _ | refine Grow.grow_alloc ?_ _)) <;> omega, SP.out.below (by (repeat (with_reducible first | exact grow_refl _ | exact G.out | refine Grow.grow_drewN ?_ _ | refine Grow.grow_drew ?_ | refine Grow.grow_setCell ?_ ?_ _ | refine Grow.grow_alloc ?_ _)) <;> omega)⟩
                      case measure => simp [intOf]; omega
              · obtain ⟨i, hi⟩ : ∃ i, i + 1 = j := ⟨j - 1, by omega⟩
                obtain ⟨d2, d3⟩ := hc i (by omega)
                obtain ⟨⟨ya, yb⟩, hy⟩ : ∃ y, l[i]'(by omega) = y := ⟨_, rfl⟩
                rw [hy] at d2 d3
                simp only at d2 d3
                have OA := Lib.hid (okAt_pos hlt2 hx hi hy)
                have t3 : decide (0 < j) = true := decide_eq_true (by omega)
                have e4 : (j : Int) - 1 = (i : Int) := by omega
                have hi0' : (0 : Int) ≤ (i : Int) := by omega
                have hi1' : (i : Int) < (l.length : Int) := by omega
                clear hc hx hy
                by_cases c1 : xb ≤ xa
                · have tc1 : decide (xb ≤ xa) = true := decide_eq_true c1
                  have HZ := Lib.hid (FZ.out (by rw [OA.out, decide_eq_false (show ¬ xa < xb by omega)]; simp))
                  clear FZ FY OA HS HI3
                  go_wp2
                  go_quiet (fail)
                  go_wp2
                  go_ret
                  exact ⟨by rw [HZ.out, HE5.out]; rfl, by (repeat (with_reducible first | exact grow_refl _ | exact G.out | refine Grow.grow_drewN ?_ _ | refine Grow.grow_drew ?_ | refine Grow.grow_setCell ?_ ?_ _ | refine Grow.grow_alloc ?_ _)) <;> omega⟩
                · have tc1 : decide (xb ≤ xa) = false := decide_eq_false c1
                  by_cases c5 : xa ≤ yb
                  · have tc5 : decide (xa ≤ yb) = true := decide_eq_true c5
                    have HZ := Lib.hid (FZ.out (by rw [OA.out, decide_eq_false (show ¬ yb < xa by omega)]; simp))
                    clear FZ FY OA HS HI3
                    go_wp2
                    go_quiet (fail)
                    go_wp2
                    go_ret
                    exact ⟨by rw [HZ.out, HE5.out]; rfl, by (repeat (with_reducible first | exact grow_refl _ | exact G.out | refine Grow.grow_drewN ?_ _ | refine Grow.grow_drew ?_ | refine Grow.grow_setCell ?_ ?_ _ | refine Grow.grow_alloc ?_ _)) <;> omega⟩
                  · have tc5 : decide (xa ≤ yb) = false := decide_eq_false c5
                    by_cases c2 : xa < -1152921504606846976
                    · have tc2 : decide (xa < -1152921504606846976) = true := decide_eq_true c2
                      have HZ := Lib.hid (FZ.out (by rw [OA.out, decide_eq_false (show ¬ -1152921504606846976 ≤ xa by omega)]; simp))
                      clear FZ FY OA HS HI3
                      go_wp2
                      go_quiet (fail)
                      go_wp2
                      go_ret
                      exact ⟨by rw [HZ.out, HE5.out]; rfl, by (repeat (with_reducible first | exact grow_refl _ | exact G.out | refine Grow.grow_drewN ?_ _ | refine Grow.grow_drew ?_ | refine Grow.grow_setCell ?_ ?_ _ | refine Grow.grow_alloc ?_ _)) <;> omega⟩
                    · have tc2 : decide (xa < -1152921504606846976) = false := decide_eq_false c2
                      by_cases c4 : 1152921504606846976 < xb
                      · have tc4 : decide (1152921504606846976 < xb) = true := decide_eq_true c4
                        have HZ := Lib.hid (FZ.out (by rw [OA.out, decide_eq_false (show ¬ xb ≤ 1152921504606846976 by omega)]; simp))
                        clear FZ FY OA HS HI3
                        go_wp2
                        go_quiet (fail)
                        go_wp2
                        go_ret
                        exact ⟨by rw [HZ.out, HE5.out]; rfl, by (repeat (with_reducible first | exact grow_refl _ | exact G.out | refine Grow.grow_drewN ?_ _ | refine Grow.grow_drew ?_ | refine Grow.grow_setCell ?_ ?_ _ | refine Grow.grow_alloc ?_ _)) <;> omega⟩
                      · have tc4 : decide (1152921504606846976 < xb) = false := decide_eq_false c4
                        have HY := Lib.hid (FY.out (by rw [OA.out, decide_eq_true (show xa < xb by omega), decide_eq_true (show -1152921504606846976 ≤ xa by omega), decide_eq_true (show xb ≤ 1152921504606846976 by omega), decide_eq_true (show yb < xa by omega)]; rfl))
                        clear FZ FY OA HS HI3
                        go_wp2
                        go_quiet (fail)
                        go_wp2
                        go_roundw
                        case rel => exact ⟨j + 1, by omega, by go_num, HY, by (repeat (with_reducible first | exact grow_refl _ | exact G.out | refine Grow.grow_drewN ?_ _ | refine Grow.grow_drew ?_ | refine Grow.grow_setCell ?_ ?_ _ | refine Grow.grow_alloc ?_ _)) <;> omega, SP.out.below (by (repeat (with_reducible first | exact grow_refl _ | exact G.out | refine Grow.grow_drewN ?_ _ | refine Grow.grow_drew ?_ | refine Grow.grow_setCell ?_ ?_ _ | refine Grow.grow_alloc ?_ _)) <;> omega)⟩
                        case measure => simp [intOf]; omega
            · obtain rfl : j = l.length := by omega
              have HY := Lib.hid (HJ.out (show fineB l = true from HO.out))
              go_wp2
              go_roundw
              case rel => exact ⟨k + 1, by omega, by go_num, HY, G.out⟩
              case measure => simp [intOf]; omega
        · obtain rfl : k = L.length := by omega
          have HZ := Lib.hid (show lsE L = 0 by unfold lsE; rw [HN.out, rowsB_yes fun i hi => HI.out i hi hi]; rfl)
          go_wp2
          go_ret
          exact ⟨by rw [HZ.out, errV_zero]; rfl, G.out⟩
end Go.Proofs.YtlfpfeidaohjmaaDoor
/- Spans: how long they are, the program's. -/
set_option linter.unusedSimpArgs false
set_option linter.unusedVariables false
namespace Go.Proofs.YtlfpfeidaohjmaaDoor
open Go.RowKit Go.Grow

theorem okUp_at {l : List (Int × Int)} : ∀ {m : Nat}, okUp l m = true → ∀ k, k < m → okAt l k = true
  | 0, _, k, hk => absurd hk (by omega)
  | m + 1, h, k, hk => by
    rw [okUp, Bool.and_eq_true] at h
    rcases Nat.lt_or_ge k m with h1 | h1
    · exact okUp_at h.1 k h1
    · obtain rfl : k = m := by omega
      exact h.2
/-- What a right list tells. -/
theorem fine_at {l : List (Int × Int)} (h : fineB l = true) (k : Nat) (hk : k < l.length) : l[k].1 < l[k].2 ∧ -1152921504606846976 ≤ l[k].1 ∧ l[k].2 ≤ 1152921504606846976 ∧ ∀ j (hj : j + 1 = k), (l[j]'(by omega)).2 < l[k].1 := by
  have h1 := okUp_at h k hk
  rcases Nat.eq_zero_or_pos k with h0 | h0
  · rw [okAt_zero hk (xa := l[k].1) (xb := l[k].2) rfl h0] at h1
    simp only [Bool.and_eq_true, decide_eq_true_eq] at h1
    exact ⟨h1.1.1, h1.1.2, h1.2, fun j hj => absurd hj (by omega)⟩
  · obtain ⟨j, hj⟩ : ∃ j, j + 1 = k := ⟨k - 1, by omega⟩
    rw [okAt_pos hk (xa := l[k].1) (xb := l[k].2) rfl hj (ya := (l[j]'(by omega)).1) (yb := (l[j]'(by omega)).2) rfl] at h1
    simp only [Bool.and_eq_true, decide_eq_true_eq] at h1
    refine ⟨h1.1.1.1, h1.1.1.2, h1.1.2, fun i hi => ?_⟩
    obtain rfl : i = j := by omega
    exact h1.2
def lenUp (l : List (Int × Int)) : Nat → Int
  | 0 => 0
  | k + 1 => lenUp l k + ((l.getD k (0, 0)).2 - (l.getD k (0, 0)).1)
theorem lenUp_le {l : List (Int × Int)} (h : fineB l = true) : ∀ k, k ≤ l.length → 0 ≤ lenUp l k ∧ lenUp l k ≤ 2305843009213693952 ∧ ∀ j (hj : j + 1 = k) (hl : j < l.length), lenUp l k ≤ l[j].2 + 1152921504606846976
  | 0, _ => ⟨Int.le_refl _, (by decide : (0 : Int) ≤ 2305843009213693952), fun j hj _ => absurd hj (by omega)⟩
  | k + 1, hk => by
    obtain ⟨h1, h2, h3⟩ := lenUp_le h k (by omega)
    obtain ⟨a1, a2, a3, a4⟩ := fine_at h k (by omega)
    have e : l.getD k (0, 0) = l[k]'(by omega) := by simp [show k < l.length by omega]
    rw [lenUp, e]
    have key : lenUp l k + ((l[k]'(by omega)).2 - (l[k]'(by omega)).1) ≤ (l[k]'(by omega)).2 + 1152921504606846976 := by
      rcases Nat.eq_zero_or_pos k with h0 | h0
      · subst h0
        show (0 : Int) + _ ≤ _
        omega
      · obtain ⟨j, hj⟩ : ∃ j, j + 1 = k := ⟨k - 1, by omega⟩
        have b1 := h3 j hj (by omega)
        have b2 := a4 j hj
        omega
    refine ⟨by omega, by omega, fun j hj hl => ?_⟩
    obtain rfl : j = k := by omega
    exact key
set_option maxRecDepth 100000 in
set_option maxHeartbeats 8000000 in
theorem long_yes (a : Nat → Addr) (r : Option Addr) (l : List (Int × Int)) (cap : Nat) (w : World) (hs : Sen a [2, 5] w) (hl : l.length ≤ 4000) (hr : SpAt w r l) (hF : fineB l = true) :
    Calls Tryd.prog 51 #[.slice r l.length cap] w fun e w' => e = .returned (.tuple #[.int .i64 (lenUp l l.length), .nilIface]) ∧ Below w.heap.size w w' := by
  have SP := Lib.hid (show Calls Tryd.prog 93 #[.slice (some ⟨w.heap.size, 0, none⟩) 1 1] (w.alloc (.cells #[.slice r l.length cap] 92)) fun e w' => e = .returned .nilIface ∧ Below w.heap.size w w' from by
    have hb := grow_alloc (grow_refl w) (.cells #[.slice r l.length cap] 92)
    have K := Known.new w #[.slice r l.length cap] 92
    have h := lists_walk a w.heap.size 1 [⟨r, l, cap⟩] _ (hs.below hb) (by simp) (fun k hk => by
      obtain rfl : k = 0 := by simpa using hk
      exact ⟨K.cell 0, hr.below hb, by show l.length ≤ _; omega⟩)
    rw [show lsE [⟨r, l, cap⟩] = 0 by
      unfold lsE longB rowsB
      have : ¬ 4000 < l.length := by omega
      simp [this, hF], errV_zero] at h
    exact h.mono fun e w' ⟨h1, h2⟩ => ⟨h1, grow_trans hb h2⟩)
  have HR := Lib.hid hr
  have HF := Lib.hid hF
  clear hs hr hF
  go_enter Tryd.func51, Tryd.ntmps51
  go_wp2_with (go_at_call 93; (with_reducible refine SP.out.mono ?_); rintro e w1 ⟨rfl, hb⟩; have HB := Lib.hid hb; clear hb)
  go_loopw [5, 16] (fun v5 v16 wr => ∃ k : Nat, k ≤ l.length ∧ v5 = .int .i64 (lenUp l k) ∧ v16 = .int .i64 k ∧ Below w.heap.size w wr) (fun _ i _ => l.length - (intOf i).toNat)
  case atStart => exact ⟨0, Nat.zero_le _, rfl, rfl, HB.out⟩
  case round =>
    obtain ⟨k, hk, rfl, rfl, hg⟩ := hrel
    have G := Lib.hid hg
    clear hg
    have hz := G.out.size
    obtain ⟨s1, s2, _⟩ := lenUp_le HF.out k hk
    by_cases hlt : k < l.length
    · have SP2 := HR.out.below G.out
      obtain ⟨b1, o1, rfl, hc⟩ := SP2.resolve_left (by intro h; rw [h] at hlt; exact absurd hlt (by simp))
      obtain ⟨d0, d1⟩ := hc k hlt
      obtain ⟨a1, a2, a3, _⟩ := fine_at HF.out k hlt
      have HS := Lib.hid (show lenUp l (k + 1) = lenUp l k + (l[k].2 - l[k].1) by rw [lenUp]; simp [hlt])
      have hb1 : b1 < wr.heap.size := lt_of_cellS d0
      have hi0 : (0 : Int) ≤ (k : Int) := by omega
      have hi1 : (k : Int) < (l.length : Int) := by omega
      clear hc SP2
      generalize l[k] = x at d0 d1 a1 a2 a3 HS
      obtain ⟨xa, xb⟩ := x
      simp only at d0 d1 a1 a2 a3
      have HS2 := Lib.hid (show lenUp l k + (xb - xa) = lenUp l (k + 1) from HS.out.symm)
      generalize lenUp l k = s at s1 s2 HS2 ⊢
      go_wp2
      go_roundw
      case rel => exact ⟨k + 1, by omega, by rw [← HS2.out], by go_num, by (repeat (with_reducible first | exact grow_refl _ | exact G.out | refine Grow.grow_drewN ?_ _ | refine Grow.grow_drew ?_ | refine Grow.grow_setCell ?_ ?_ _ | refine Grow.grow_alloc ?_ _)) <;> omega⟩
      case measure => simp [intOf]; omega
    · obtain rfl : k = l.length := by omega
      go_wp2
      go_ret2
      exact ⟨rfl, G.out⟩
set_option maxRecDepth 100000 in
set_option maxHeartbeats 8000000 in
theorem long_no (a : Nat → Addr) (r : Option Addr) (l : List (Int × Int)) (cap : Nat) (w : World) (hs : Sen a [2, 5] w) (hl : l.length ≤ 9223372036854775807) (hr : SpAt w r l) (hE : lsE [⟨r, l, cap⟩] ≠ 0) :
    Calls Tryd.prog 51 #[.slice r l.length cap] w fun e w' => e = .returned (.tuple #[.int .i64 0, errV a (lsE [⟨r, l, cap⟩])]) ∧ Below w.heap.size w w' := by
  have SP := Lib.hid (show Calls Tryd.prog 93 #[.slice (some ⟨w.heap.size, 0, none⟩) 1 1] (w.alloc (.cells #[.slice r l.length cap] 92)) fun e w' => e = .returned (errV a (lsE [⟨r, l, cap⟩])) ∧ Below w.heap.size w w' from by
    have hb := grow_alloc (grow_refl w) (.cells #[.slice r l.length cap] 92)
    have K := Known.new w #[.slice r l.length cap] 92
    have h := lists_walk a w.heap.size 1 [⟨r, l, cap⟩] _ (hs.below hb) (by simp) (fun k hk => by
      obtain rfl : k = 0 := by simpa using hk
      exact ⟨K.cell 0, hr.below hb, hl⟩)
    exact h.mono fun e w' ⟨h1, h2⟩ => ⟨h1, grow_trans hb h2⟩)
  have hu := errV_pos a hE
  rw [hu] at SP ⊢
  clear hs hr hE hu
  go_enter Tryd.func51, Tryd.ntmps51
  go_wp2_with (go_at_call 93; (with_reducible refine SP.out.mono ?_); rintro e w1 ⟨rfl, hb⟩; have HB := Lib.hid hb; clear hb)
  go_ret2
  exact ⟨rfl, HB.out⟩
end Go.Proofs.YtlfpfeidaohjmaaDoor
/- The shelf's contracts at this program: slices.Sort and slices.Compact of whole numbers. -/
set_option linter.unusedSimpArgs false
set_option linter.unusedVariables false
namespace Go.Proofs.YtlfpfeidaohjmaaDoor
open Go.RowKit Go.Grow Go.Shelf Go.Sort

theorem sort_walk (blk off cap : Nat) (zs : List Int) (w : World) (hH : Holds (Value.int .i64) w blk off zs.toArray) (hblk : blk < w.heap.size) (hsz : zs.length < 4611686018427387904) :
    Calls Tryd.prog 126 #[.slice (some ⟨blk, off, none⟩) zs.length cap] w fun e w' =>
      e = .returned (.tuple #[]) ∧ ∃ n os, w' = grow (putRow (Value.int .i64) (Sort.ahead w n) blk off (zs.mergeSort fun x y => decide (x ≤ y)).toArray) os :=
  Any.slices_Sort_int YtlfpfeidaohjmaaDoor.laysSort blk off cap zs w hH hblk hsz
theorem compact_walk (blk off cap : Nat) (zs : List Int) (w : World) (hH : Holds (Value.int .i64) w blk off zs.toArray) (hsz : zs.length ≤ 9223372036854775807) (hcap : zs.length ≤ cap) :
    Calls Tryd.prog 130 #[.slice (some ⟨blk, off, none⟩) zs.length cap] w fun e w' =>
      e = .returned (.slice (some ⟨blk, off, none⟩) (Lib.compact zs).length cap) ∧ ∃ q, w' = putRow (Value.int .i64) (Sort.ahead w q) blk off (Lib.compact zs ++ List.replicate (zs.length - (Lib.compact zs).length) 0).toArray :=
  calls_of_every_depth fun D => AnyS.slices_Compact_int_in YtlfpfeidaohjmaaDoor.laysCompact D blk off cap zs w hH hsz hcap
end Go.Proofs.YtlfpfeidaohjmaaDoor
