/- Cells of directions: the law where the entries are too many or too long, or a number is huge. -/
import Derived.Test.YtjjjbkehmnfgbaaDoorAc24
set_option linter.unusedSimpArgs false
set_option linter.unusedVariables false
namespace Go.Proofs.YtjjjbkehmnfgbaaDoor
open Go.RowKit Go.Grow Go.Atl Go.Maps

def outB (l : List En) (d : Dr) : Bool := !fewB l || hugeB d.x || hugeB d.y || hugeB d.z
set_option maxRecDepth 100000 in
set_option maxHeartbeats 32000000 in
theorem law_out (r : Option Addr) (l : List En) (cap : Nat) (lev : Int) (d : Dr) (s : Sp) (w : World) (hl : l.length ≤ 9223372036854775807) (hr : EnsAt w r l) (hn : ∀ k, k < l.length → (en l k).name.size ≤ maxLen) (ho : outB l d = true) :
    Calls Tryd.prog 5 #[.slice r l.length cap, .int .i64 lev, drV d, spV s] w fun e w' => e = .returned (.bool true) ∧ Below w.heap.size w w' := by
  have LW := Lib.hid (fun X => listed_walk X)
  have FW := Lib.hid (fun X (hX : Below w.heap.size w X) => few_walk r l cap X hl (hr.below hX) hn)
  clear hr hn
  obtain ⟨x, y, z⟩ := d
  obtain ⟨fc, lv, co, ro⟩ := s
  have HX := Lib.hid (fun X => huge_walk x X)
  have HY := Lib.hid (fun X => huge_walk y X)
  have HZ := Lib.hid (fun X => huge_walk z X)
  have KX := Lib.hid (fun X (hX : Below ((w.alloc (.cells #[.int .i64 x, .int .i64 y, .int .i64 z] 46)).alloc (.cells #[.int .i64 fc, .int .i64 lv, .int .i64 co, .int .i64 ro] 48)).heap.size ((w.alloc (.cells #[.int .i64 x, .int .i64 y, .int .i64 z] 46)).alloc (.cells #[.int .i64 fc, .int .i64 lv, .int .i64 co, .int .i64 ro] 48)) X) => (Known.alloc (Known.new w #[.int .i64 x, .int .i64 y, .int .i64 z] 46) (.cells #[.int .i64 fc, .int .i64 lv, .int .i64 co, .int .i64 ro] 48)).below hX)
  have GX := Lib.hid (fun X (hX : Below ((w.alloc (.cells #[.int .i64 x, .int .i64 y, .int .i64 z] 46)).alloc (.cells #[.int .i64 fc, .int .i64 lv, .int .i64 co, .int .i64 ro] 48)).heap.size ((w.alloc (.cells #[.int .i64 x, .int .i64 y, .int .i64 z] 46)).alloc (.cells #[.int .i64 fc, .int .i64 lv, .int .i64 co, .int .i64 ro] 48)) X) => grow_trans (grow_alloc (grow_alloc (grow_refl w) _) _) hX)
  unfold drV spV
  simp only
  unfold outB at ho
  simp only at ho
  cases hf : fewB l
  · rw [hf] at FW
    go_enter Tryd.func5, Tryd.ntmps5
    go_wp2_with (first
      | (go_at_call 17; (with_reducible refine (LW.out _).mono ?_); rintro e1 w1 ⟨rfl, hb⟩; have B1 := Lib.hid hb; clear hb)
      | (go_at_call 18; (with_reducible refine (FW.out _ (GX.out _ B1.out)).mono ?_); rintro e2 w2 ⟨rfl, hb⟩; have B2 := Lib.hid (grow_trans B1.out hb); have K := Lib.hid (KX.out _ B2.out); clear hb B1; have k0 := K.out.cell 0; have lk := K.out.lt; simp only [List.getElem?_toArray, List.getElem?_cons_zero, List.getElem?_cons_succ] at k0)
      | (go_at_call 19; (with_reducible refine (HX.out _).mono ?_); rintro e3 w3 ⟨rfl, hb⟩; have B3 := Lib.hid (grow_trans B2.out hb); clear hb B2 K k0 lk; have K := Lib.hid (KX.out _ B3.out); have k1 := K.out.cell 1; have lk := K.out.lt; simp only [List.getElem?_toArray, List.getElem?_cons_zero, List.getElem?_cons_succ] at k1)
      | (go_at_call 19; (with_reducible refine (HY.out _).mono ?_); rintro e4 w4 ⟨rfl, hb⟩; have B4 := Lib.hid (grow_trans B3.out hb); clear hb B3 K k1 lk; have K := Lib.hid (KX.out _ B4.out); have k2 := K.out.cell 2; have lk := K.out.lt; simp only [List.getElem?_toArray, List.getElem?_cons_zero, List.getElem?_cons_succ] at k2)
      | (go_at_call 19; (with_reducible refine (HZ.out _).mono ?_); rintro e5 w5 ⟨rfl, hb⟩; have B5 := Lib.hid (grow_trans B4.out hb); clear hb B4 K k2 lk; have K := Lib.hid (KX.out _ B5.out)))
    go_ret
    exact ⟨rfl, GX.out _ B5.out⟩
  · rw [hf] at FW ho
    cases hx : hugeB x
    rotate_left
    · rw [hx] at HX
      go_enter Tryd.func5, Tryd.ntmps5
      go_wp2_with (first
        | (go_at_call 17; (with_reducible refine (LW.out _).mono ?_); rintro e1 w1 ⟨rfl, hb⟩; have B1 := Lib.hid hb; clear hb)
        | (go_at_call 18; (with_reducible refine (FW.out _ (GX.out _ B1.out)).mono ?_); rintro e2 w2 ⟨rfl, hb⟩; have B2 := Lib.hid (grow_trans B1.out hb); have K := Lib.hid (KX.out _ B2.out); clear hb B1; have k0 := K.out.cell 0; have lk := K.out.lt; simp only [List.getElem?_toArray, List.getElem?_cons_zero, List.getElem?_cons_succ] at k0)
        | (go_at_call 19; (with_reducible refine (HX.out _).mono ?_); rintro e3 w3 ⟨rfl, hb⟩; have B3 := Lib.hid (grow_trans B2.out hb); clear hb B2 K k0 lk; have K := Lib.hid (KX.out _ B3.out); have k1 := K.out.cell 1; have lk := K.out.lt; simp only [List.getElem?_toArray, List.getElem?_cons_zero, List.getElem?_cons_succ] at k1)
        | (go_at_call 19; (with_reducible refine (HY.out _).mono ?_); rintro e4 w4 ⟨rfl, hb⟩; have B4 := Lib.hid (grow_trans B3.out hb); clear hb B3 K k1 lk; have K := Lib.hid (KX.out _ B4.out); have k2 := K.out.cell 2; have lk := K.out.lt; simp only [List.getElem?_toArray, List.getElem?_cons_zero, List.getElem?_cons_succ] at k2)
        | (go_at_call 19; (with_reducible refine (HZ.out _).mono ?_); rintro e5 w5 ⟨rfl, hb⟩; have B5 := Lib.hid (grow_trans B4.out hb); clear hb B4 K k2 lk; have K := Lib.hid (KX.out _ B5.out)))
      go_ret
      exact ⟨rfl, GX.out _ B5.out⟩
    · rw [hx] at HX ho
      cases hy : hugeB y
      rotate_left
      · rw [hy] at HY
        go_enter Tryd.func5, Tryd.ntmps5
        go_wp2_with (first
          | (go_at_call 17; (with_reducible refine (LW.out _).mono ?_); rintro e1 w1 ⟨rfl, hb⟩; have B1 := Lib.hid hb; clear hb)
          | (go_at_call 18; (with_reducible refine (FW.out _ (GX.out _ B1.out)).mono ?_); rintro e2 w2 ⟨rfl, hb⟩; have B2 := Lib.hid (grow_trans B1.out hb); have K := Lib.hid (KX.out _ B2.out); clear hb B1; have k0 := K.out.cell 0; have lk := K.out.lt; simp only [List.getElem?_toArray, List.getElem?_cons_zero, List.getElem?_cons_succ] at k0)
          | (go_at_call 19; (with_reducible refine (HX.out _).mono ?_); rintro e3 w3 ⟨rfl, hb⟩; have B3 := Lib.hid (grow_trans B2.out hb); clear hb B2 K k0 lk; have K := Lib.hid (KX.out _ B3.out); have k1 := K.out.cell 1; have lk := K.out.lt; simp only [List.getElem?_toArray, List.getElem?_cons_zero, List.getElem?_cons_succ] at k1)
          | (go_at_call 19; (with_reducible refine (HY.out _).mono ?_); rintro e4 w4 ⟨rfl, hb⟩; have B4 := Lib.hid (grow_trans B3.out hb); clear hb B3 K k1 lk; have K := Lib.hid (KX.out _ B4.out); have k2 := K.out.cell 2; have lk := K.out.lt; simp only [List.getElem?_toArray, List.getElem?_cons_zero, List.getElem?_cons_succ] at k2)
          | (go_at_call 19; (with_reducible refine (HZ.out _).mono ?_); rintro e5 w5 ⟨rfl, hb⟩; have B5 := Lib.hid (grow_trans B4.out hb); clear hb B4 K k2 lk; have K := Lib.hid (KX.out _ B5.out)))
        go_ret
        exact ⟨rfl, GX.out _ B5.out⟩
      · rw [hy] at HY ho
        have hz : hugeB z = true := by simpa using ho
        rw [hz] at HZ
        go_enter Tryd.func5, Tryd.ntmps5
        go_wp2_with (first
          | (go_at_call 17; (with_reducible refine (LW.out _).mono ?_); rintro e1 w1 ⟨rfl, hb⟩; have B1 := Lib.hid hb; clear hb)
          | (go_at_call 18; (with_reducible refine (FW.out _ (GX.out _ B1.out)).mono ?_); rintro e2 w2 ⟨rfl, hb⟩; have B2 := Lib.hid (grow_trans B1.out hb); have K := Lib.hid (KX.out _ B2.out); clear hb B1; have k0 := K.out.cell 0; have lk := K.out.lt; simp only [List.getElem?_toArray, List.getElem?_cons_zero, List.getElem?_cons_succ] at k0)
          | (go_at_call 19; (with_reducible refine (HX.out _).mono ?_); rintro e3 w3 ⟨rfl, hb⟩; have B3 := Lib.hid (grow_trans B2.out hb); clear hb B2 K k0 lk; have K := Lib.hid (KX.out _ B3.out); have k1 := K.out.cell 1; have lk := K.out.lt; simp only [List.getElem?_toArray, List.getElem?_cons_zero, List.getElem?_cons_succ] at k1)
          | (go_at_call 19; (with_reducible refine (HY.out _).mono ?_); rintro e4 w4 ⟨rfl, hb⟩; have B4 := Lib.hid (grow_trans B3.out hb); clear hb B3 K k1 lk; have K := Lib.hid (KX.out _ B4.out); have k2 := K.out.cell 2; have lk := K.out.lt; simp only [List.getElem?_toArray, List.getElem?_cons_zero, List.getElem?_cons_succ] at k2)
          | (go_at_call 19; (with_reducible refine (HZ.out _).mono ?_); rintro e5 w5 ⟨rfl, hb⟩; have B5 := Lib.hid (grow_trans B4.out hb); clear hb B4 K k2 lk; have K := Lib.hid (KX.out _ B5.out)))
        go_ret
        exact ⟨rfl, GX.out _ B5.out⟩
end Go.Proofs.YtjjjbkehmnfgbaaDoor
