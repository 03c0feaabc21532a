/- Spans: whether lists are right, the program's. -/
import Derived.Test.YtjjjbkehmnfgbaaDoorNs3
set_option linter.unusedSimpArgs false
set_option linter.unusedVariables false
namespace Go.Proofs.YtjjjbkehmnfgbaaDoor
open Go.RowKit Go.Grow

structure Row where
  r : Option Addr
  l : List (Int × Int)
  cap : Nat
/-- Rows of spans lie at block B. -/
def RowsAt (w : World) (B : Nat) (L : List Row) : Prop := ∀ k (h : k < L.length), w.cell? ⟨B, k, none⟩ = some (.slice L[k].r L[k].l.length L[k].cap) ∧ SpAt w L[k].r L[k].l ∧ L[k].l.length ≤ 9223372036854775807
theorem RowsAt.below {w w' : World} {B : Nat} {L : List Row} (h : RowsAt w B L) (hb : Below w.heap.size w w') : RowsAt w' B L := fun k hk => by
  obtain ⟨c, h1, h2⟩ := h k hk
  have hl : B < w.heap.size := lt_of_cellS c
  exact ⟨(hb.cell (p := ⟨B, k, none⟩) hl).trans c, h1.below hb, h2⟩
def longB (L : List Row) : Bool := L.any fun x => decide (4000 < x.l.length)
def rowsB (L : List Row) : Bool := L.all fun x => fineB x.l
def lsE (L : List Row) : Nat := if longB L then 2 else if rowsB L then 0 else 5
theorem longB_at {L : List Row} {k : Nat} (hk : k < L.length) (h : 4000 < L[k].l.length) : longB L = true := by
  unfold longB
  rw [List.any_eq_true]
  exact ⟨L[k], List.getElem_mem hk, by simpa using h⟩
theorem rowsB_at {L : List Row} {k : Nat} (hk : k < L.length) (h : fineB L[k].l = false) : rowsB L = false := by
  cases hh : rowsB L with
  | false => rfl
  | true =>
    unfold rowsB at hh
    rw [List.all_eq_true] at hh
    rw [hh _ (List.getElem_mem hk)] at h
    cases h
theorem longB_not {L : List Row} (h : ∀ k (hk : k < L.length), L[k].l.length ≤ 4000) : longB L = false := by
  cases hh : longB L with
  | false => rfl
  | true =>
    unfold longB at hh
    rw [List.any_eq_true] at hh
    obtain ⟨x, hx, h2⟩ := hh
    obtain ⟨k, hk, rfl⟩ := List.mem_iff_getElem.1 hx
    have := h k hk
    simp at h2
    omega
theorem rowsB_yes {L : List Row} (h : ∀ k (hk : k < L.length), fineB L[k].l = true) : rowsB L = true := by
  unfold rowsB
  rw [List.all_eq_true]
  intro x hx
  obtain ⟨k, hk, rfl⟩ := List.mem_iff_getElem.1 hx
  exact h k hk
set_option maxRecDepth 100000 in
set_option maxHeartbeats 8000000 in
theorem lists_walk (a : Nat → Addr) (B cap : Nat) (L : List Row) (w : World) (hs : Sen a [2, 5] w) (hL : L.length ≤ 2) (hr : RowsAt w B L) :
    Calls Tryd.prog 73 #[.slice (some ⟨B, 0, none⟩) L.length cap] w fun e w' => e = .returned (errV a (lsE L)) ∧ Below w.heap.size w w' := by
  have HR := Lib.hid hr
  have HE2 := Lib.hid (errV_pos a (show 2 ≠ 0 by decide))
  have HE5 := Lib.hid (errV_pos a (show 5 ≠ 0 by decide))
  have HS := Lib.hid hs
  have c2 := (hs 2 (by decide)).1
  simp only [gOf] at c2
  have hlt2 := lt_of_cellS c2
  clear hs hr
  go_enter Tryd.func73, Tryd.ntmps73
  go_wp2
  go_loopw [11] (fun v11 wr => ∃ k : Nat, k ≤ L.length ∧ v11 = .int .i64 k ∧ w = wr ∧ Hid (∀ i (hi : i < L.length), i < k → L[i].l.length ≤ 4000)) (fun i _ => L.length - (intOf i).toNat)
  case atStart => exact ⟨0, Nat.zero_le _, rfl, rfl, Lib.hid fun i hi h => absurd h (by omega)⟩
  case round =>
    obtain ⟨k, hk, rfl, rfl, HI⟩ := hrel
    by_cases hlt : k < L.length
    · obtain ⟨e0, _, e2⟩ := HR.out k hlt
      have hi0 : (0 : Int) ≤ (k : Int) := by omega
      have hi1 : (k : Int) < (L.length : Int) := by omega
      by_cases c : 4000 < L[k].l.length
      · have HZ := Lib.hid (show lsE L = 2 by unfold lsE; rw [longB_at hlt c]; rfl)
        generalize L[k] = x at e0 e2 c
        go_wp2
        go_ret
        exact ⟨by rw [HZ.out, HE2.out]; rfl, by repeat (with_reducible first | exact grow_refl _ | refine Grow.grow_drewN ?_ _ | refine Grow.grow_drew ?_)⟩
      · have HJ := Lib.hid (show ∀ i (hi : i < L.length), i < k + 1 → L[i].l.length ≤ 4000 from fun i hi h => by
          rcases Nat.lt_or_ge i k with h1 | h1
          · exact HI.out i hi h1
          · obtain rfl : i = k := by omega
            omega)
        generalize L[k] = x at e0 e2 c
        go_wp2
        go_roundw
        case rel => exact ⟨k + 1, by omega, by go_num, trivial, HJ⟩
        case measure => simp [intOf]; omega
    · obtain rfl : k = L.length := by omega
      have HN := Lib.hid (longB_not fun i hi => HI.out i hi hi)
      have HI3 := Lib.hid (show ∀ i (hi : i < L.length), L[i].l.length ≤ 4000 from fun i hi => HI.out i hi hi)
      clear HI
      go_wp2
      go_loopw [22] (fun v22 wr => ∃ k : Nat, k ≤ L.length ∧ v22 = .int .i64 k ∧ Hid (∀ i (hi : i < L.length), i < k → fineB L[i].l = true) ∧ Below w.heap.size w wr) (fun i _ => L.length - (intOf i).toNat)
      case atStart => exact ⟨0, Nat.zero_le _, rfl, Lib.hid fun i hi h => absurd h (by omega), grow_refl _⟩
      case round =>
        obtain ⟨k, hk, rfl, HI, hg⟩ := hrel
        have G := Lib.hid hg
        clear hg
        by_cases hlt : k < L.length
        · obtain ⟨e0, e1, e2⟩ := HR.out k hlt
          replace e0 := (G.out.cell (p := ⟨B, k, none⟩) (lt_of_cellS e0)).trans e0
          have E1 := Lib.hid (e1.below G.out)
          have hi0 : (0 : Int) ≤ (k : Int) := by omega
          have hi1 : (k : Int) < (L.length : Int) := by omega
          have e3 := HI3.out k hlt
          have HF := Lib.hid (fun h : fineB L[k].l = false => show lsE L = 5 by unfold lsE; rw [HN.out, rowsB_at hlt h]; rfl)
          have HJ := Lib.hid (show fineB L[k].l = true → ∀ i (hi : i < L.length), i < k + 1 → fineB L[i].l = true from fun h0 i hi h => by
            rcases Nat.lt_or_ge i k with h1 | h1
            · exact HI.out i hi h1
            · obtain rfl : i = k := by omega
              exact h0)
          clear e1 HI
          generalize L[k] = x at e0 e2 e3 E1 HF HJ
          obtain ⟨r, l, c⟩ := x
          simp only at e0 e2 e3
          have GV := G
          clear G
          go_wp2
          go_loopw [28] (fun v28 wr' => ∃ j : Nat, j ≤ l.length ∧ v28 = .int .i64 j ∧ Hid (okUp l j = true) ∧ Below w.heap.size w wr' ∧ SpAt wr' r l) (fun i _ => l.length - (intOf i).toNat)
          case atStart => exact ⟨0, Nat.zero_le _, rfl, Lib.hid rfl, GV.out, E1.out⟩
          case round =>
            clear GV E1
            obtain ⟨j, hj, rfl, HO, hg, hsp⟩ := hrel
            have G := Lib.hid hg
            have SP := Lib.hid hsp
            clear hg hsp
            have hz := G.out.size
            have c2 := (HS.out.below G.out 2 (by decide)).1
            have c5 := (HS.out.below G.out 5 (by decide)).1
            simp only [gOf] at c2 c5
            have g5 : 2 < wr.heap.size := lt_of_cellS c5
            have g6 : ¬ (wr.heap.size = 2) := by omega
            have g7 : ¬ (2 = wr.heap.size) := by omega
            by_cases hlt2 : j < l.length
            · obtain ⟨b1, o1, rfl, hc⟩ := SP.out.resolve_left (by intro h; rw [h] at hlt2; exact absurd hlt2 (by simp))
              obtain ⟨d0, d1⟩ := hc j hlt2
              have hb1 : b1 < wr.heap.size := lt_of_cellS d0
              obtain ⟨⟨xa, xb⟩, hx⟩ : ∃ x, l[j] = x := ⟨_, rfl⟩
              rw [hx] at d0 d1
              simp only at d0 d1
              have FZ := Lib.hid (fun (h : okAt l j = false) => HF.out (fineB_false hlt2 h))
              have FY := Lib.hid (fun (h : okAt l j = true) => show okUp l (j + 1) = true by rw [okUp, HO.out, h]; rfl)
              have hj0 : (0 : Int) ≤ (j : Int) := by omega
              have hj1 : (j : Int) < (l.length : Int) := by omega
              clear HF HJ HO e0
              rcases Nat.eq_zero_or_pos j with hk0 | hk0
              · have OA := Lib.hid (okAt_zero hlt2 hx hk0)
                have t3 : decide (0 < j) = false := decide_eq_false (by omega)
                clear hc hx hk0
                by_cases c1 : xb ≤ xa
                · have tc1 : decide (xb ≤ xa) = true := decide_eq_true c1
                  have HZ := Lib.hid (FZ.out (by rw [OA.out, decide_eq_false (show ¬ xa < xb by omega)]; simp))
                  clear FZ FY OA HS HI3
                  go_wp2
                  go_quiet (fail)
                  go_wp2
                  go_ret
                  exact ⟨by rw [HZ.out, HE5.out]; rfl, by (repeat (with_reducible first | exact grow_refl _ | exact G.out | refine Grow.grow_drewN ?_ _ | refine Grow.grow_drew ?_ | refine Grow.grow_setCell ?_ ?_ _ | refine Grow.grow_alloc ?_ _)) <;> omega⟩
                · have tc1 : decide (xb ≤ xa) = false := decide_eq_false c1
                  by_cases c2 : xa < -1152921504606846976
                  · have tc2 : decide (xa < -1152921504606846976) = true := decide_eq_true c2
                    have HZ := Lib.hid (FZ.out (by rw [OA.out, decide_eq_false (show ¬ -1152921504606846976 ≤ xa by omega)]; simp))
                    clear FZ FY OA HS HI3
                    go_wp2
                    go_quiet (fail)
                    go_wp2
                    go_ret
                    exact ⟨by rw [HZ.out, HE5.out]; rfl, by (repeat (with_reducible first | exact grow_refl _ | exact G.out | refine Grow.grow_drewN ?_ _ | refine Grow.grow_drew ?_ | refine Grow.grow_setCell ?_ ?_ _ | refine Grow.grow_alloc ?_ _)) <;> omega⟩
                  · have tc2 : decide (xa < -1152921504606846976) = false := decide_eq_false c2
                    by_cases c4 : 1152921504606846976 < xb
                    · have tc4 : decide (1152921504606846976 < xb) = true := decide_eq_true c4
                      have HZ := Lib.hid (FZ.out (by rw [OA.out, decide_eq_false (show ¬ xb ≤ 1152921504606846976 by omega)]; simp))
                      clear FZ FY OA HS HI3
                      go_wp2
                      go_quiet (fail)
                      go_wp2
                      go_ret
                      exact ⟨by rw [HZ.out, HE5.out]; rfl, by (repeat (with_reducible first | exact grow_refl _ | exact G.out | refine Grow.grow_drewN ?_ _ | refine Grow.grow_drew ?_ | refine Grow.grow_setCell ?_ ?_ _ | refine Grow.grow_alloc ?_ _)) <;> omega⟩
                    · have tc4 : decide (1152921504606846976 < xb) = false := decide_eq_false c4
                      have HY := Lib.hid (FY.out (by rw [OA.out, decide_eq_true (show xa < xb by omega), decide_eq_true (show -1152921504606846976 ≤ xa by omega), decide_eq_true (show xb ≤ 1152921504606846976 by omega)]; rfl))
                      clear FZ FY OA HS HI3
                      go_wp2
                      go_quiet (fail)
                      go_wp2
                      go_roundw
                      case rel => exact ⟨j + 1, by omega, by go_num, HY, by (repeat (with_reducible first | exact grow_refl _ | exact G.out | refine Grow.grow_drewN ?_ _ | refine Grow.grow_drew ?_ | refine Grow.grow_setCell ?_ ?_ _ | refine Grow.grow_alloc ?_ _)) <;> omega, SP.out.below (by (repeat (with_reducible first | exact grow_refl _ | exact G.out | refine Grow.grow_drewN ?_ _ | refine Grow.grow_drew ?_ | refine Grow.grow_setCell ?_ ?_ _ | refine Grow.grow_alloc ?_ _)) <;> omega)⟩
                      case measure => simp [intOf]; omega
              · obtain ⟨i, hi⟩ : ∃ i, i + 1 = j := ⟨j - 1, by omega⟩
                obtain ⟨d2, d3⟩ := hc i (by omega)
                obtain ⟨⟨ya, yb⟩, hy⟩ : ∃ y, l[i]'(by omega) = y := ⟨_, rfl⟩
                rw [hy] at d2 d3
                simp only at d2 d3
                have OA := Lib.hid (okAt_pos hlt2 hx hi hy)
                have t3 : decide (0 < j) = true := decide_eq_true (by omega)
                have e4 : (j : Int) - 1 = (i : Int) := by omega
                have hi0' : (0 : Int) ≤ (i : Int) := by omega
                have hi1' : (i : Int) < (l.length : Int) := by omega
                clear hc hx hy
                by_cases c1 : xb ≤ xa
                · have tc1 : decide (xb ≤ xa) = true := decide_eq_true c1
                  have HZ := Lib.hid (FZ.out (by rw [OA.out, decide_eq_false (show ¬ xa < xb by omega)]; simp))
                  clear FZ FY OA HS HI3
                  go_wp2
                  go_quiet (fail)
                  go_wp2
                  go_ret
                  exact ⟨by rw [HZ.out, HE5.out]; rfl, by (repeat (with_reducible first | exact grow_refl _ | exact G.out | refine Grow.grow_drewN ?_ _ | refine Grow.grow_drew ?_ | refine Grow.grow_setCell ?_ ?_ _ | refine Grow.grow_alloc ?_ _)) <;> omega⟩
                · have tc1 : decide (xb ≤ xa) = false := decide_eq_false c1
                  by_cases c5 : xa ≤ yb
                  · have tc5 : decide (xa ≤ yb) = true := decide_eq_true c5
                    have HZ := Lib.hid (FZ.out (by rw [OA.out, decide_eq_false (show ¬ yb < xa by omega)]; simp))
                    clear FZ FY OA HS HI3
                    go_wp2
                    go_quiet (fail)
                    go_wp2
                    go_ret
                    exact ⟨by rw [HZ.out, HE5.out]; rfl, by (repeat (with_reducible first | exact grow_refl _ | exact G.out | refine Grow.grow_drewN ?_ _ | refine Grow.grow_drew ?_ | refine Grow.grow_setCell ?_ ?_ _ | refine Grow.grow_alloc ?_ _)) <;> omega⟩
                  · have tc5 : decide (xa ≤ yb) = false := decide_eq_false c5
                    by_cases c2 : xa < -1152921504606846976
                    · have tc2 : decide (xa < -1152921504606846976) = true := decide_eq_true c2
                      have HZ := Lib.hid (FZ.out (by rw [OA.out, decide_eq_false (show ¬ -1152921504606846976 ≤ xa by omega)]; simp))
                      clear FZ FY OA HS HI3
                      go_wp2
                      go_quiet (fail)
                      go_wp2
                      go_ret
                      exact ⟨by rw [HZ.out, HE5.out]; rfl, by (repeat (with_reducible first | exact grow_refl _ | exact G.out | refine Grow.grow_drewN ?_ _ | refine Grow.grow_drew ?_ | refine Grow.grow_setCell ?_ ?_ _ | refine Grow.grow_alloc ?_ _)) <;> omega⟩
                    · have tc2 : decide (xa < -1152921504606846976) = false := decide_eq_false c2
                      by_cases c4 : 1152921504606846976 < xb
                      · have tc4 : decide (1152921504606846976 < xb) = true := decide_eq_true c4
                        have HZ := Lib.hid (FZ.out (by rw [OA.out, decide_eq_false (show ¬ xb ≤ 1152921504606846976 by omega)]; simp))
                        clear FZ FY OA HS HI3
                        go_wp2
                        go_quiet (fail)
                        go_wp2
                        go_ret
                        exact ⟨by rw [HZ.out, HE5.out]; rfl, by (repeat (with_reducible first | exact grow_refl _ | exact G.out | refine Grow.grow_drewN ?_ _ | refine Grow.grow_drew ?_ | refine Grow.grow_setCell ?_ ?_ _ | refine Grow.grow_alloc ?_ _)) <;> omega⟩
                      · have tc4 : decide (1152921504606846976 < xb) = false := decide_eq_false c4
                        have HY := Lib.hid (FY.out (by rw [OA.out, decide_eq_true (show xa < xb by omega), decide_eq_true (show -1152921504606846976 ≤ xa by omega), decide_eq_true (show xb ≤ 1152921504606846976 by omega), decide_eq_true (show yb < xa by omega)]; rfl))
                        clear FZ FY OA HS HI3
                        go_wp2
                        go_quiet (fail)
                        go_wp2
                        go_roundw
                        case rel => exact ⟨j + 1, by omega, by go_num, HY, by (repeat (with_reducible first | exact grow_refl _ | exact G.out | refine Grow.grow_drewN ?_ _ | refine Grow.grow_drew ?_ | refine Grow.grow_setCell ?_ ?_ _ | refine Grow.grow_alloc ?_ _)) <;> omega, SP.out.below (by (repeat (with_reducible first | exact grow_refl _ | exact G.out | refine Grow.grow_drewN ?_ _ | refine Grow.grow_drew ?_ | refine Grow.grow_setCell ?_ ?_ _ | refine Grow.grow_alloc ?_ _)) <;> omega)⟩
                        case measure => simp [intOf]; omega
            · obtain rfl : j = l.length := by omega
              have HY := Lib.hid (HJ.out (show fineB l = true from HO.out))
              go_wp2
              go_roundw
              case rel => exact ⟨k + 1, by omega, by go_num, HY, G.out⟩
              case measure => simp [intOf]; omega
        · obtain rfl : k = L.length := by omega
          have HZ := Lib.hid (show lsE L = 0 by unfold lsE; rw [HN.out, rowsB_yes fun i hi => HI.out i hi hi]; rfl)
          go_wp2
          go_ret
          exact ⟨by rw [HZ.out, errV_zero]; rfl, G.out⟩
end Go.Proofs.YtjjjbkehmnfgbaaDoor
