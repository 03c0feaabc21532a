/- The night's jobs: whether they are right, the document's. -/
import Derived.Test.YtjjjbkehmnfgbaaDoorNj2
set_option linter.unusedSimpArgs false
set_option linter.unusedVariables false
namespace Go.Proofs.YtjjjbkehmnfgbaaDoor
open Go.RowKit Go.Grow Go.Night

set_option maxRecDepth 100000 in
set_option maxHeartbeats 8000000 in
theorem jobsError_walk (r : Option Addr) (l : List Jb) (cap : Nat) (w : World) (hl : l.length ≤ 1000000) (hw : ∀ j ∈ l, j.win.length ≤ 4000) (hr : JobsAt w r l) :
    Calls Tryd.prog 11 #[.slice r l.length cap] w fun e w' => e = .returned (.int .i64 (jobsE l : Nat)) ∧ Below w.heap.size w w' := by
  have HR := Lib.hid hr
  have HW := Lib.hid hw
  clear hr hw
  by_cases c1 : 12 < l.length
  · have HE := Lib.hid (show jobsE l = 2 by unfold jobsE; rw [if_pos c1])
    go_enter Tryd.func11, Tryd.ntmps11
    go_wp2
    go_ret
    exact ⟨by rw [HE.out]; rfl, grow_refl _⟩
  · have HE := Lib.hid (show jobsE l = if namesUp l l.length then (if shapesUp l l.length then 0 else 5) else 10 by unfold jobsE; rw [if_neg c1])
    go_enter Tryd.func11, Tryd.ntmps11
    go_wp2
    go_loopw [3] (fun v3 wr => ∃ k : Nat, k ≤ l.length ∧ v3 = .int .i64 k ∧ Hid (namesUp l k = true) ∧ Below w.heap.size w wr) (fun i _ => l.length - (intOf i).toNat)
    case atStart => exact ⟨0, Nat.zero_le _, rfl, Lib.hid rfl, grow_refl _⟩
    case round =>
      obtain ⟨k, hk, rfl, HI, hg⟩ := hrel
      have G := Lib.hid hg
      clear hg
      have hz := G.out.size
      by_cases hlt : k < l.length
      · obtain ⟨b1, o1, rfl, hc⟩ := HR.out.resolve_left (by intro h; rw [h] at hlt; exact absurd hlt (by simp))
        have HC := Lib.hid hc
        obtain ⟨rs, cs, e0, _⟩ := hc k hlt
        have hb1 : b1 < w.heap.size := lt_of_cellS e0
        rw [← G.out.cell (p := ⟨b1, _, none⟩) hb1] at e0
        have hi0 : (0 : Int) ≤ (k : Int) := by omega
        have hi1 : (k : Int) < (l.length : Int) := by omega
        have HB := Lib.hid (fun h => show jobsE l = 10 by rw [HE.out, names_bad hlt h]; rfl)
        have HT := Lib.hid (fun (h : nameOk l k = true) => show namesUp l (k + 1) = true by rw [namesUp, HI.out, h]; rfl)
        clear hc
        by_cases c2 : (at_ l k).name = .empty
        · have HZ := Lib.hid (HB.out (by unfold nameOk; rw [decide_eq_true c2]; rfl))
          rw [c2] at e0
          clear HB HT HC
          go_wp2
          go_ret
          exact ⟨by rw [HZ.out]; rfl, G.out⟩
        · have d2 : (at_ l k).name.toList.isEmpty = false := by rw [← decide_eq_emptyBytes]; exact decide_eq_false c2
          have HN := Lib.hid (show nameOk l k = !twin l k k by unfold nameOk; rw [decide_eq_false c2]; rfl)
          have HTW := Lib.hid (fun (i : Nat) (hi : i < k) (e : (at_ l i).name = (at_ l k).name) => twin_true hi e)
          have HSU := Lib.hid (fun (i : Nat) => show twin l k (i + 1) = (twin l k i || decide ((at_ l i).name = (at_ l k).name)) from rfl)
          clear c2
          have GV := G
          clear G
          obtain ⟨nk, hnk⟩ : ∃ n, (at_ l k).name = n := ⟨_, rfl⟩
          rw [hnk] at e0 d2 HTW HSU
          have E0 := Lib.hid ((GV.out.cell (p := ⟨b1, _, none⟩) hb1).symm.trans e0)
          have HNK := Lib.hid hnk
          clear hnk
          go_wp2
          go_loopw [4] (fun v4 wr' => ∃ i : Nat, i ≤ k ∧ v4 = .int .i64 i ∧ Hid (twin l k i = false) ∧ Below w.heap.size w wr') (fun i _ => k - (intOf i).toNat)
          case atStart => exact ⟨0, Nat.zero_le _, rfl, Lib.hid rfl, GV.out⟩
          case round =>
            clear GV e0 d2
            obtain ⟨i, hik, rfl, HO, hg⟩ := hrel
            have G := Lib.hid hg
            clear hg
            by_cases hlt2 : i < k
            · obtain ⟨r2, c2, f0, _⟩ := HC.out i (by omega)
              rw [← G.out.cell (p := ⟨b1, _, none⟩) hb1] at f0
              have e0 := E0.out
              rw [← G.out.cell (p := ⟨b1, _, none⟩) hb1] at e0
              have hi0' : (0 : Int) ≤ (i : Int) := by omega
              have hi1' : (i : Int) < (l.length : Int) := by omega
              have HS2 := Lib.hid (HSU.out i)
              have HT2 := Lib.hid (HTW.out i hlt2)
              generalize (at_ l i).name = ni at f0 HS2 HT2
              by_cases c3 : ni = nk
              · have d3 : (ni.toList == nk.toList) = true := by rw [toList_dec]; exact decide_eq_true c3
                have HZ := Lib.hid (HB.out (by rw [HN.out, HT2.out c3]; rfl))
                clear HB HT HC HN HTW HSU HT2 HS2 c3
                go_wp2
                go_quiet (fail)
                go_wp2
                go_ret
                exact ⟨by rw [HZ.out]; rfl, by (repeat (with_reducible first | exact G.out | refine Grow.grow_drewN ?_ _ | refine Grow.grow_drew ?_))⟩
              · have d3 : (ni.toList == nk.toList) = false := by rw [toList_dec]; exact decide_eq_false c3
                have HZ := Lib.hid (show twin l k (i + 1) = false by rw [HS2.out, HO.out, decide_eq_false c3]; rfl)
                clear HB HT HC HN HTW HSU HT2 HS2 c3
                go_wp2
                go_quiet (fail)
                go_wp2
                go_roundw
                case rel => exact ⟨i + 1, by omega, by go_num, HZ, by (repeat (with_reducible first | exact G.out | refine Grow.grow_drewN ?_ _ | refine Grow.grow_drew ?_))⟩
                case measure => simp [intOf]; omega
            · obtain rfl : i = k := by omega
              have HZ := Lib.hid (HT.out (by rw [HN.out, HO.out]; rfl))
              go_wp2
              go_roundw
              case rel => exact ⟨i + 1, by omega, by go_num, HZ, G.out⟩
              case measure => simp [intOf]; omega
      · obtain rfl : k = l.length := by omega
        have HE2 := Lib.hid (show jobsE l = if shapesUp l l.length then 0 else 5 by rw [HE.out, HI.out]; rfl)
        clear HI HE
        have GV := G
        clear G
        go_wp2
        go_loopw [5] (fun v5 wr' => ∃ i : Nat, i ≤ l.length ∧ v5 = .int .i64 i ∧ Hid (shapesUp l i = true) ∧ Below w.heap.size w wr') (fun i _ => l.length - (intOf i).toNat)
        case atStart => exact ⟨0, Nat.zero_le _, rfl, Lib.hid rfl, GV.out⟩
        case round =>
          clear GV
          obtain ⟨k, hk2, rfl, HI, hg⟩ := hrel
          have G := Lib.hid hg
          clear hg
          have hz := G.out.size
          by_cases hlt : k < l.length
          · obtain ⟨b1, o1, rfl, hc⟩ := HR.out.resolve_left (by intro h; rw [h] at hlt; exact absurd hlt (by simp))
            obtain ⟨rs, cs, e0, e1, e2, e3, hsp⟩ := hc k hlt
            have hb1 : b1 < w.heap.size := lt_of_cellS e0
            rw [← G.out.cell (p := ⟨b1, _, none⟩) hb1] at e0 e1 e2 e3
            have hb1' : b1 < wr.heap.size := Nat.lt_of_lt_of_le hb1 hz
            have hi0 : (0 : Int) ≤ (k : Int) := by omega
            have hi1 : (k : Int) < (l.length : Int) := by omega
            have hwk := HW.out _ (at_mem hlt)
            have HB := Lib.hid (fun (h : shapeB (at_ l k) = false) => show jobsE l = 5 by rw [HE2.out, shapes_bad hlt h]; rfl)
            have HT := Lib.hid (fun (h : shapeB (at_ l k) = true) => show shapesUp l (k + 1) = true by rw [shapesUp, HI.out, h]; rfl)
            have SPW := Lib.hid (fun X (hX : Below w.heap.size w X) => show Calls Tryd.prog 42 #[.slice rs (at_ l k).win.length cs, .slice none 0 0] X fun e w' => e = .returned (.int .i64 (spE (at_ l k).win [] : Nat)) ∧ Below X.heap.size X w' from spansError_walk rs none (at_ l k).win [] cs 0 X (by omega) (by simp) (hsp.below hX) (.inl rfl))
            clear hc hsp
            generalize at_ l k = x at e0 e1 e2 e3 hwk HB HT SPW
            obtain ⟨nm, wn, lg, wt⟩ := x
            simp only at e0 e1 e2 e3 hwk SPW
            unfold shapeB at HB HT
            simp only at HB HT
            have hspE : spE wn [] = if fineB wn then 0 else 5 := by
              unfold spE
              rw [if_neg (by simp; omega), show fineB [] = true from rfl, Bool.and_true]
            rw [hspE] at SPW
            clear hspE
            by_cases t1 : lg < 1
            · have u1 : decide (lg < 1) = true := decide_eq_true t1
              have HZ := Lib.hid (HB.out (by rw [decide_eq_false (show ¬ 1 ≤ lg by omega)]; rfl))
              clear HB HT SPW t1
              go_wp2
              go_ret
              exact ⟨by rw [HZ.out]; rfl, by (repeat (with_reducible first | exact G.out | refine Grow.grow_drewN ?_ _ | refine Grow.grow_drew ?_ | refine Grow.grow_setCell ?_ ?_ _ | refine Grow.grow_alloc ?_ _)) <;> omega⟩
            · have u1 : decide (lg < 1) = false := decide_eq_false t1
              have v1 : decide (1 ≤ lg) = true := decide_eq_true (by omega)
              by_cases t2 : 1099511627776 < lg
              · have u2 : decide (1099511627776 < lg) = true := decide_eq_true t2
                have HZ := Lib.hid (HB.out (by rw [decide_eq_false (show ¬ lg ≤ 1099511627776 by omega), Bool.and_false]; rfl))
                clear HB HT SPW t1 t2
                go_wp2
                go_ret
                exact ⟨by rw [HZ.out]; rfl, by (repeat (with_reducible first | exact G.out | refine Grow.grow_drewN ?_ _ | refine Grow.grow_drew ?_ | refine Grow.grow_setCell ?_ ?_ _ | refine Grow.grow_alloc ?_ _)) <;> omega⟩
              · have u2 : decide (1099511627776 < lg) = false := decide_eq_false t2
                have v2 : decide (lg ≤ 1099511627776) = true := decide_eq_true (by omega)
                by_cases t3 : wt < 1
                · have u3 : decide (wt < 1) = true := decide_eq_true t3
                  have HZ := Lib.hid (HB.out (by rw [decide_eq_false (show ¬ 1 ≤ wt by omega), Bool.and_false]; rfl))
                  clear HB HT SPW t1 t2 t3
                  go_wp2
                  go_ret
                  exact ⟨by rw [HZ.out]; rfl, by (repeat (with_reducible first | exact G.out | refine Grow.grow_drewN ?_ _ | refine Grow.grow_drew ?_ | refine Grow.grow_setCell ?_ ?_ _ | refine Grow.grow_alloc ?_ _)) <;> omega⟩
                · have u3 : decide (wt < 1) = false := decide_eq_false t3
                  have v3 : decide (1 ≤ wt) = true := decide_eq_true (by omega)
                  by_cases t4 : 1099511627776 < wt
                  · have u4 : decide (1099511627776 < wt) = true := decide_eq_true t4
                    have HZ := Lib.hid (HB.out (by rw [decide_eq_false (show ¬ wt ≤ 1099511627776 by omega), Bool.and_false]; rfl))
                    clear HB HT SPW t1 t2 t3 t4
                    go_wp2
                    go_ret
                    exact ⟨by rw [HZ.out]; rfl, by (repeat (with_reducible first | exact G.out | refine Grow.grow_drewN ?_ _ | refine Grow.grow_drew ?_ | refine Grow.grow_setCell ?_ ?_ _ | refine Grow.grow_alloc ?_ _)) <;> omega⟩
                  · have u4 : decide (1099511627776 < wt) = false := decide_eq_false t4
                    have v4 : decide (wt ≤ 1099511627776) = true := decide_eq_true (by omega)
                    cases hf : fineB wn with
                    | false =>
                      rw [hf] at SPW
                      have HZ := Lib.hid (HB.out (by rw [hf, Bool.and_false]))
                      clear HB HT t1 t2 t3 t4 hf
                      go_wp2_with (go_at_call 42; (with_reducible refine (SPW.out _ (by (repeat (with_reducible first | exact G.out | refine Grow.grow_drewN ?_ _ | refine Grow.grow_drew ?_ | refine Grow.grow_setCell ?_ ?_ _ | refine Grow.grow_alloc ?_ _)) <;> omega)).mono ?_); rintro e w1 ⟨rfl, hb⟩; have HB1 := Lib.hid hb; clear hb)
                      go_ret
                      exact ⟨by rw [HZ.out]; rfl, grow_trans (by (repeat (with_reducible first | exact G.out | refine Grow.grow_drewN ?_ _ | refine Grow.grow_drew ?_ | refine Grow.grow_setCell ?_ ?_ _ | refine Grow.grow_alloc ?_ _)) <;> omega) HB1.out⟩
                    | true =>
                      rw [hf] at SPW
                      have HZ := Lib.hid (HT.out (by rw [v1, v2, v3, v4, hf]; rfl))
                      clear HB HT t1 t2 t3 t4 hf
                      go_wp2_with (go_at_call 42; (with_reducible refine (SPW.out _ (by (repeat (with_reducible first | exact G.out | refine Grow.grow_drewN ?_ _ | refine Grow.grow_drew ?_ | refine Grow.grow_setCell ?_ ?_ _ | refine Grow.grow_alloc ?_ _)) <;> omega)).mono ?_); rintro e w1 ⟨rfl, hb⟩; have HB1 := Lib.hid hb; clear hb)
                      go_roundw
                      case rel => exact ⟨k + 1, by omega, by go_num, HZ, grow_trans (by (repeat (with_reducible first | exact G.out | refine Grow.grow_drewN ?_ _ | refine Grow.grow_drew ?_ | refine Grow.grow_setCell ?_ ?_ _ | refine Grow.grow_alloc ?_ _)) <;> omega) HB1.out⟩
                      case measure => simp [intOf]; omega
          · obtain rfl : k = l.length := by omega
            have HZ := Lib.hid (show jobsE l = 0 by rw [HE2.out, HI.out]; rfl)
            go_wp2
            go_ret
            exact ⟨by rw [HZ.out]; rfl, G.out⟩
end Go.Proofs.YtjjjbkehmnfgbaaDoor
