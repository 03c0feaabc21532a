/- The night's jobs: whether they are right, the program's. -/
import Derived.Test.YtjjjbkehmnfgbaaDoorNj4
set_option linter.unusedSimpArgs false
set_option linter.unusedVariables false
namespace Go.Proofs.YtjjjbkehmnfgbaaDoor
open Go.RowKit Go.Grow Go.Night

set_option maxRecDepth 100000 in
set_option maxHeartbeats 8000000 in
theorem valid_walk (a : Nat → Addr) (r : Option Addr) (l : List Jb) (cap : Nat) (w : World) (hs : Sen a [2, 5, 10] w) (hl : l.length ≤ 1000000) (hcap : l.length ≤ cap) (hw : ∀ j ∈ l, j.win.length ≤ 4000) (hr : JobsAt w r l) :
    Calls Tryd.prog 13 #[.slice r l.length cap] w fun e w' => e = .returned (errV a (jobsE l)) ∧ Below w.heap.size w w' := by
  have HR := Lib.hid hr
  have HW := Lib.hid hw
  have HS := Lib.hid hs
  have HS2 := Lib.hid (hs.sub (js := [2, 5]) (by decide))
  have HE2 := Lib.hid (errV_pos a (show 2 ≠ 0 by decide))
  have HE5 := Lib.hid (errV_pos a (show 5 ≠ 0 by decide))
  have HE10 := Lib.hid (errV_pos a (show 10 ≠ 0 by decide))
  clear hr hw
  by_cases c1 : 12 < l.length
  · have HE := Lib.hid (show jobsE l = 2 by unfold jobsE; rw [if_pos c1])
    have g2 := (hs 2 (by decide)).1
    simp only [gOf] at g2
    clear hs
    go_enter Tryd.func13, Tryd.ntmps13
    go_wp2
    go_ret
    exact ⟨by rw [HE.out, HE2.out]; rfl, grow_refl _⟩
  · have HE := Lib.hid (show jobsE l = if namesUp l l.length then (if shapesUp l l.length then 0 else 5) else 10 by unfold jobsE; rw [if_neg c1])
    clear hs
    go_enter Tryd.func13, Tryd.ntmps13
    go_wp2
    go_loopw [13] (fun v13 wr => ∃ k : Nat, k ≤ l.length ∧ v13 = .int .i64 k ∧ Hid (namesUp l k = true) ∧ Below w.heap.size w wr) (fun i _ => l.length - (intOf i).toNat)
    case atStart => exact ⟨0, Nat.zero_le _, rfl, Lib.hid rfl, grow_refl _⟩
    case round =>
      obtain ⟨k, hk, rfl, HI, hg⟩ := hrel
      have G := Lib.hid hg
      clear hg
      have hz := G.out.size
      by_cases hlt : k < l.length
      · obtain ⟨b1, o1, rfl, hc⟩ := HR.out.resolve_left (by intro h; rw [h] at hlt; exact absurd hlt (by simp))
        obtain ⟨rs, cs, e0, e1, e2, e3, _⟩ := hc k hlt
        have hb1 : b1 < w.heap.size := lt_of_cellS e0
        rw [← G.out.cell (p := ⟨b1, _, none⟩) hb1] at e0 e1 e2 e3
        have hb1' : b1 < wr.heap.size := Nat.lt_of_lt_of_le hb1 hz
        have g10 := (HS.out.below G.out 10 (by decide)).1
        simp only [gOf] at g10
        have l10 := lt_of_cellS g10
        simp only at l10
        have hi0 : (0 : Int) ≤ (k : Int) := by omega
        have hi1 : (k : Int) < (l.length : Int) := by omega
        have HB := Lib.hid (fun h => show jobsE l = 10 by rw [HE.out, names_bad hlt h]; rfl)
        have HT := Lib.hid (fun (h : nameOk l k = true) => show namesUp l (k + 1) = true by rw [namesUp, HI.out, h]; rfl)
        have HTW := Lib.hid (show ∀ x : Bool, (x = true ↔ ∃ i, i < k ∧ (at_ l i).name = (at_ l k).name) → twin l k k = x from fun x hx => by
          cases x with
          | true => obtain ⟨i, h1, h2⟩ := hx.1 rfl; exact twin_true h1 h2
          | false =>
            cases ht : twin l k k with
            | false => rfl
            | true =>
              exfalso
              have : ∀ n, twin l k n = true → ∃ i, i < n ∧ (at_ l i).name = (at_ l k).name := by
                intro n
                induction n with
                | zero => intro h; cases h
                | succ n ih =>
                  intro h
                  rw [twin, Bool.or_eq_true, decide_eq_true_eq] at h
                  rcases h with h | h
                  · obtain ⟨i, h1, h2⟩ := ih h; exact ⟨i, by omega, h2⟩
                  · exact ⟨n, by omega, h⟩
              exact absurd (hx.2 (this k ht)) (by simp))
        have HV := Lib.hid (fun X (hX : Below w.heap.size w X) (hcc : X.cell? ⟨wr.heap.size, 0, none⟩ = some (.string (at_ l k).name)) => show Calls Tryd.prog 44 #[.slice (some ⟨b1, o1, none⟩) k cap, .func (.func 45) #[] #[.pointer (some ⟨wr.heap.size, 0, none⟩)]] X fun e w' => e = .returned (.bool (twin l k k)) ∧ Below X.heap.size X w' from (has_val1 (some ⟨b1, o1, none⟩) l k cap wr.heap.size (at_ l k).name X hk hl (HR.out.below hX) hcc).mono fun e w' ⟨⟨x, h1, h2⟩, h3⟩ => ⟨by rw [HTW.out x h2]; exact h1, h3⟩)
        clear HTW
        clear hc
        by_cases c2 : (at_ l k).name = .empty
        · have HZ := Lib.hid (HB.out (by unfold nameOk; rw [decide_eq_true c2]; rfl))
          rw [c2] at e0
          clear HB HT HV
          go_wp2
          go_ret
          exact ⟨by rw [HZ.out, HE10.out]; rfl, (by (repeat (with_reducible first | exact G.out | refine Grow.grow_drewN ?_ _ | refine Grow.grow_drew ?_ | refine Grow.grow_setCell ?_ ?_ _ | refine Grow.grow_alloc ?_ _)) <;> omega)⟩
        · have d2 : (at_ l k).name.toList.isEmpty = false := by rw [← decide_eq_emptyBytes]; exact decide_eq_false c2
          have HN := Lib.hid (show nameOk l k = !(twin l k k) by unfold nameOk; rw [decide_eq_false c2]; rfl)
          generalize hnk : (at_ l k).name = nk at e0 d2 HV
          clear c2 hnk
          have hkc : (k : Int) ≤ (cap : Int) := by omega
          have hkc2 : k ≤ cap := by omega
          cases ht : twin l k k
          · rw [ht] at HV HN
            have HZ := Lib.hid (HT.out HN.out)
            clear ht HT HB
            go_wp2_with (go_at_call 44; (with_reducible refine (HV.out _ (by (repeat (with_reducible first | exact G.out | refine Grow.grow_drewN ?_ _ | refine Grow.grow_drew ?_ | refine Grow.grow_setCell ?_ ?_ _ | refine Grow.grow_alloc ?_ _)) <;> omega) (by simp [cell?_cells])).mono ?_); rintro e w1 ⟨rfl, hb⟩; have HB1 : Hid (Below w.heap.size w w1) := Lib.hid (grow_trans (by (repeat (with_reducible first | exact G.out | refine Grow.grow_drewN ?_ _ | refine Grow.grow_drew ?_ | refine Grow.grow_setCell ?_ ?_ _ | refine Grow.grow_alloc ?_ _)) <;> omega) hb); clear hb)
            go_roundw
            case rel => exact ⟨k + 1, by omega, by go_num, HZ, HB1.out⟩
            case measure => simp [intOf]; omega
          · rw [ht] at HV HN
            have HZ := Lib.hid (HB.out HN.out)
            clear ht HT HB
            go_wp2_with (go_at_call 44; (with_reducible refine (HV.out _ (by (repeat (with_reducible first | exact G.out | refine Grow.grow_drewN ?_ _ | refine Grow.grow_drew ?_ | refine Grow.grow_setCell ?_ ?_ _ | refine Grow.grow_alloc ?_ _)) <;> omega) (by simp [cell?_cells])).mono ?_); rintro e w1 ⟨rfl, hb⟩; have HB1 : Hid (Below w.heap.size w w1) := Lib.hid (grow_trans (by (repeat (with_reducible first | exact G.out | refine Grow.grow_drewN ?_ _ | refine Grow.grow_drew ?_ | refine Grow.grow_setCell ?_ ?_ _ | refine Grow.grow_alloc ?_ _)) <;> omega) hb); clear hb; have g10' := (HS.out.below HB1.out 10 (by decide)).1; simp only [gOf] at g10')
            go_ret
            exact ⟨by rw [HZ.out, HE10.out]; rfl, HB1.out⟩
      · obtain rfl : k = l.length := by omega
        have HE3 := Lib.hid (show jobsE l = if shapesUp l l.length then 0 else 5 by rw [HE.out, HI.out]; rfl)
        clear HI HE
        have GV := G
        clear G
        go_wp2
        go_loopw [32] (fun v32 wr' => ∃ i : Nat, i ≤ l.length ∧ v32 = .int .i64 i ∧ Hid (shapesUp l i = true) ∧ Below w.heap.size w wr') (fun i _ => l.length - (intOf i).toNat)
        case atStart => exact ⟨0, Nat.zero_le _, rfl, Lib.hid rfl, GV.out⟩
        case round =>
          clear GV
          obtain ⟨k, hk2, rfl, HI, hg⟩ := hrel
          have G := Lib.hid hg
          clear hg
          have hz := G.out.size
          by_cases hlt : k < l.length
          · obtain ⟨b1, o1, rfl, hc⟩ := HR.out.resolve_left (by intro h; rw [h] at hlt; exact absurd hlt (by simp))
            obtain ⟨rs, cs, e0, e1, e2, e3, hsp⟩ := hc k hlt
            have hb1 : b1 < w.heap.size := lt_of_cellS e0
            rw [← G.out.cell (p := ⟨b1, _, none⟩) hb1] at e0 e1 e2 e3
            have hb1' : b1 < wr.heap.size := Nat.lt_of_lt_of_le hb1 hz
            have g5 := (HS.out.below G.out 5 (by decide)).1
            simp only [gOf] at g5
            have l5 := lt_of_cellS g5
            simp only at l5
            have hi0 : (0 : Int) ≤ (k : Int) := by omega
            have hi1 : (k : Int) < (l.length : Int) := by omega
            have hwk := HW.out _ (at_mem hlt)
            have HB := Lib.hid (fun (h : shapeB (at_ l k) = false) => show jobsE l = 5 by rw [HE3.out, shapes_bad hlt h]; rfl)
            have HT := Lib.hid (fun (h : shapeB (at_ l k) = true) => show shapesUp l (k + 1) = true by rw [shapesUp, HI.out, h]; rfl)
            have SPW := Lib.hid (fun X (hX : Below w.heap.size w X) => evValid_walk a rs (at_ l k).win cs X (HS2.out.below hX) (by omega) (hsp.below hX))
            clear hc hsp
            generalize at_ l k = x at e0 e1 e2 e3 hwk HB HT SPW
            obtain ⟨nm, wn, lg, wt⟩ := x
            simp only at e0 e1 e2 e3 hwk SPW
            unfold shapeB at HB HT
            simp only at HB HT
            by_cases t1 : lg < 1
            · have u1 : decide (lg < 1) = true := decide_eq_true t1
              have HZ := Lib.hid (HB.out (by rw [decide_eq_false (show ¬ 1 ≤ lg by omega)]; rfl))
              clear HB HT SPW t1
              go_wp2
              go_ret
              exact ⟨by rw [HZ.out, HE5.out]; rfl, (by (repeat (with_reducible first | exact G.out | refine Grow.grow_drewN ?_ _ | refine Grow.grow_drew ?_ | refine Grow.grow_setCell ?_ ?_ _ | refine Grow.grow_alloc ?_ _)) <;> omega)⟩
            · have u1 : decide (lg < 1) = false := decide_eq_false t1
              have v1 : decide (1 ≤ lg) = true := decide_eq_true (by omega)
              by_cases t3 : wt < 1
              · have u3 : decide (wt < 1) = true := decide_eq_true t3
                have HZ := Lib.hid (HB.out (by rw [decide_eq_false (show ¬ 1 ≤ wt by omega), Bool.and_false]; rfl))
                clear HB HT SPW t1 t3
                go_wp2
                go_ret
                exact ⟨by rw [HZ.out, HE5.out]; rfl, (by (repeat (with_reducible first | exact G.out | refine Grow.grow_drewN ?_ _ | refine Grow.grow_drew ?_ | refine Grow.grow_setCell ?_ ?_ _ | refine Grow.grow_alloc ?_ _)) <;> omega)⟩
              · have u3 : decide (wt < 1) = false := decide_eq_false t3
                have v3 : decide (1 ≤ wt) = true := decide_eq_true (by omega)
                by_cases t2 : 1099511627776 < lg
                · have u2 : decide (1099511627776 < lg) = true := decide_eq_true t2
                  have HZ := Lib.hid (HB.out (by rw [decide_eq_false (show ¬ lg ≤ 1099511627776 by omega), Bool.and_false]; rfl))
                  clear HB HT SPW t1 t2 t3
                  go_wp2
                  go_ret
                  exact ⟨by rw [HZ.out, HE5.out]; rfl, (by (repeat (with_reducible first | exact G.out | refine Grow.grow_drewN ?_ _ | refine Grow.grow_drew ?_ | refine Grow.grow_setCell ?_ ?_ _ | refine Grow.grow_alloc ?_ _)) <;> omega)⟩
                · have u2 : decide (1099511627776 < lg) = false := decide_eq_false t2
                  have v2 : decide (lg ≤ 1099511627776) = true := decide_eq_true (by omega)
                  by_cases t4 : 1099511627776 < wt
                  · have u4 : decide (1099511627776 < wt) = true := decide_eq_true t4
                    have HZ := Lib.hid (HB.out (by rw [decide_eq_false (show ¬ wt ≤ 1099511627776 by omega), Bool.and_false]; rfl))
                    clear HB HT SPW t1 t2 t3 t4
                    go_wp2
                    go_ret
                    exact ⟨by rw [HZ.out, HE5.out]; rfl, (by (repeat (with_reducible first | exact G.out | refine Grow.grow_drewN ?_ _ | refine Grow.grow_drew ?_ | refine Grow.grow_setCell ?_ ?_ _ | refine Grow.grow_alloc ?_ _)) <;> omega)⟩
                  · have u4 : decide (1099511627776 < wt) = false := decide_eq_false t4
                    have v4 : decide (wt ≤ 1099511627776) = true := decide_eq_true (by omega)
                    cases hf : fineB wn with
                    | false =>
                      rw [hf, show (if false = true then 0 else 5) = 5 from rfl, HE5.out] at SPW
                      have HZ := Lib.hid (HB.out (by rw [hf, Bool.and_false]))
                      clear HB HT t1 t2 t3 t4 hf
                      go_wp2_with (go_at_call 46; (with_reducible refine (SPW.out _ (by (repeat (with_reducible first | exact G.out | refine Grow.grow_drewN ?_ _ | refine Grow.grow_drew ?_ | refine Grow.grow_setCell ?_ ?_ _ | refine Grow.grow_alloc ?_ _)) <;> omega)).mono ?_); rintro e w1 ⟨rfl, hb⟩; have HB1 : Hid (Below w.heap.size w w1) := Lib.hid (grow_trans (by (repeat (with_reducible first | exact G.out | refine Grow.grow_drewN ?_ _ | refine Grow.grow_drew ?_ | refine Grow.grow_setCell ?_ ?_ _ | refine Grow.grow_alloc ?_ _)) <;> omega) hb); clear hb; have g5' := (HS.out.below HB1.out 5 (by decide)).1; simp only [gOf] at g5')
                      go_ret
                      exact ⟨by rw [HZ.out, HE5.out]; rfl, HB1.out⟩
                    | true =>
                      rw [hf, show (if true = true then 0 else 5) = 0 from rfl, errV_zero] at SPW
                      have HZ := Lib.hid (HT.out (by rw [v1, v2, v3, v4, hf]; rfl))
                      clear HB HT t1 t2 t3 t4 hf
                      go_wp2_with (go_at_call 46; (with_reducible refine (SPW.out _ (by (repeat (with_reducible first | exact G.out | refine Grow.grow_drewN ?_ _ | refine Grow.grow_drew ?_ | refine Grow.grow_setCell ?_ ?_ _ | refine Grow.grow_alloc ?_ _)) <;> omega)).mono ?_); rintro e w1 ⟨rfl, hb⟩; have HB1 : Hid (Below w.heap.size w w1) := Lib.hid (grow_trans (by (repeat (with_reducible first | exact G.out | refine Grow.grow_drewN ?_ _ | refine Grow.grow_drew ?_ | refine Grow.grow_setCell ?_ ?_ _ | refine Grow.grow_alloc ?_ _)) <;> omega) hb); clear hb)
                      go_roundw
                      case rel => exact ⟨k + 1, by omega, by go_num, HZ, HB1.out⟩
                      case measure => simp [intOf]; omega
          · obtain rfl : k = l.length := by omega
            have HZ := Lib.hid (show jobsE l = 0 by rw [HE3.out, HI.out]; rfl)
            go_wp2
            go_ret
            exact ⟨by rw [HZ.out]; rfl, G.out⟩
end Go.Proofs.YtjjjbkehmnfgbaaDoor
