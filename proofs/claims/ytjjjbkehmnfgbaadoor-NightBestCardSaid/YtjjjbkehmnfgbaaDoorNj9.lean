/- The night's best plan: when a job can begin; what a set of jobs is worth. -/
import Derived.Test.YtjjjbkehmnfgbaaDoorNj8
set_option linter.unusedSimpArgs false
set_option linter.unusedVariables false
namespace Go.Proofs.YtjjjbkehmnfgbaaDoor
open Go.RowKit Go.Grow Go.Night

theorem and_bit : ∀ X : Nat, X < 64 → ∀ k : Nat, k < 6 → (bits .and .i64 (X : Int) (wrap64 (2 ^ k)) != 0) = X.testBit k := by decide +kernel
theorem or_bit : ∀ X : Nat, X < 64 → ∀ k : Nat, k < 6 → bits .or .i64 (X : Int) (wrap64 (2 ^ k)) = (add X k : Nat) := by decide +kernel
theorem andNot_bit : ∀ X : Nat, X < 64 → ∀ k : Nat, k < 6 → X.testBit k = true → bits .andNot .i64 (X : Int) (wrap64 (2 ^ k)) = (del X k : Nat) := by decide +kernel
def soonV (o : Option Int) : Value := match o with
  | none => .tuple #[.int .i64 0, .bool false]
  | some a => .tuple #[.int .i64 a, .bool true]
set_option maxRecDepth 100000 in
set_option maxHeartbeats 8000000 in
theorem first_walk (nm : ByteArray) (r : Option Addr) (l : List (Int × Int)) (cap : Nat) (lg wt t : Int) (w : World) (hl : l.length ≤ 1000000) (hr : SpAt w r l) (hlg : 1 ≤ lg ∧ lg ≤ 1099511627776)
    (hx : ∀ x ∈ l, -1152921504606846976 ≤ x.1 ∧ x.1 < x.2 ∧ x.2 ≤ 1152921504606846976) :
    Calls Tryd.prog 39 #[.agg #[.string nm, .slice r l.length cap, .int .i64 lg, .int .i64 wt], .int .i64 t] w fun e w' => e = .returned (soonV (l.findSome? (hit lg t))) ∧ Below w.heap.size w w' := by
  have HR := Lib.hid hr
  have HX := Lib.hid hx
  clear hr hx
  go_enter Tryd.func39, Tryd.ntmps39
  go_wp2
  go_loopw [12] (fun v12 wr => ∃ k : Nat, k ≤ l.length ∧ v12 = .int .i64 k ∧ Hid ((l.take k).findSome? (hit lg t) = none) ∧ Known wr w.heap.size #[.string nm, .slice r l.length cap, .int .i64 lg, .int .i64 wt] ∧ Below w.heap.size w wr) (fun i _ => l.length - (intOf i).toNat)
  case atStart => exact ⟨0, Nat.zero_le _, rfl, Lib.hid rfl, Known.new _ _ _, grow_alloc (grow_refl _) _⟩
  case round =>
    obtain ⟨k, hk, rfl, HI, hkn, hg⟩ := hrel
    have G := Lib.hid hg
    have K := Lib.hid hkn
    clear hg hkn
    have hz := G.out.size
    have hz2 := K.out.lt
    have q2 := K.out.cell 2
    simp only [List.getElem?_toArray, List.getElem?_cons_zero, List.getElem?_cons_succ] at q2
    by_cases hlt : k < l.length
    · obtain ⟨b1, o1, rfl, hc⟩ := HR.out.resolve_left (by intro h; rw [h] at hlt; exact absurd hlt (by simp))
      obtain ⟨e0, e1⟩ := hc k hlt
      have hb1 : b1 < w.heap.size := lt_of_cellS e0
      rw [← G.out.cell (p := ⟨b1, _, none⟩) hb1] at e0 e1
      have hb1' : b1 < wr.heap.size := Nat.lt_of_lt_of_le hb1 hz
      have hi0 : (0 : Int) ≤ (k : Int) := by omega
      have hi1 : (k : Int) < (l.length : Int) := by omega
      have hxk := HX.out _ (List.getElem_mem hlt)
      have HH := Lib.hid (fun (y : Int) (h : hit lg t l[k] = some y) => findSome_take (hit lg t) l k hlt HI.out h)
      have HS := Lib.hid (fun (h : hit lg t l[k] = none) => findSome_succ (hit lg t) l k hlt HI.out h)
      clear hc
      generalize l[k] = x at e0 e1 hxk HH HS
      obtain ⟨xa, xb⟩ := x
      rw [show hit lg t (xa, xb) = if max t xa ≤ xb - lg then some (max t xa) else none from rfl] at HH HS
      simp only at e0 e1 hxk
      rcases (show t < xa ∨ xa ≤ t by omega) with hm | hm
      · rw [show max t xa = xa by omega] at HH HS
        have hn : decide (t < xa) = true := decide_eq_true hm
        by_cases c : xa ≤ xb - lg
        · have HZ := Lib.hid (HH.out xa (by rw [if_pos c]))
          have u := decide_eq_true c
          clear HH HS HI
          go_wp2
          go_ret2
          exact ⟨by rw [HZ.out]; rfl, by (repeat (with_reducible first | exact G.out | refine Grow.grow_drewN ?_ _ | refine Grow.grow_drew ?_ | refine Grow.grow_alloc ?_ _))⟩
        · have HZ := Lib.hid (HS.out (by rw [if_neg c]))
          have u := decide_eq_false c
          clear HH HS HI
          go_wp2
          go_roundw
          case rel => exact ⟨k + 1, by omega, by go_num, HZ, K.out.alloc _, by (repeat (with_reducible first | exact G.out | refine Grow.grow_drewN ?_ _ | refine Grow.grow_drew ?_ | refine Grow.grow_alloc ?_ _))⟩
          case measure => simp [intOf]; omega
      · rw [show max t xa = t by omega] at HH HS
        have hn : ¬ (t < xa) := by omega
        by_cases c : t ≤ xb - lg
        · have HZ := Lib.hid (HH.out t (by rw [if_pos c]))
          have u := decide_eq_true c
          clear HH HS HI
          go_wp2
          go_ret2
          exact ⟨by rw [HZ.out]; rfl, by (repeat (with_reducible first | exact G.out | refine Grow.grow_drewN ?_ _ | refine Grow.grow_drew ?_ | refine Grow.grow_alloc ?_ _))⟩
        · have HZ := Lib.hid (HS.out (by rw [if_neg c]))
          have u := decide_eq_false c
          clear HH HS HI
          go_wp2
          go_roundw
          case rel => exact ⟨k + 1, by omega, by go_num, HZ, K.out.alloc _, by (repeat (with_reducible first | exact G.out | refine Grow.grow_drewN ?_ _ | refine Grow.grow_drew ?_ | refine Grow.grow_alloc ?_ _))⟩
          case measure => simp [intOf]; omega
    · obtain rfl : k = l.length := by omega
      rw [List.take_length] at HI
      go_wp2
      go_ret2
      exact ⟨by rw [HI.out]; rfl, G.out⟩
set_option maxRecDepth 100000 in
set_option maxHeartbeats 8000000 in
theorem worth_walk (r : Option Addr) (l : List Jb) (cap X : Nat) (w : World) (hl : l.length ≤ 6) (hX : X < 64) (hr : JobsAt w r l) (hwt : ∀ j ∈ l, 1 ≤ j.worth ∧ j.worth ≤ 1099511627776) :
    Calls Tryd.prog 38 #[.slice r l.length cap, .int .i64 X] w fun e w' => e = .returned (.int .i64 (worthOf l X)) ∧ Below w.heap.size w w' := by
  have HR := Lib.hid hr
  have HX := Lib.hid hwt
  clear hr hwt
  go_enter Tryd.func38, Tryd.ntmps38
  go_wp2
  go_loopw [5, 10] (fun v5 v10 wr => ∃ k : Nat, k ≤ l.length ∧ v5 = .int .i64 (wUp l X k) ∧ v10 = .int .i64 k ∧ 0 ≤ wUp l X k ∧ wUp l X k ≤ k * 1099511627776 ∧ Below w.heap.size w wr) (fun _ i _ => l.length - (intOf i).toNat)
  case atStart => exact ⟨0, Nat.zero_le _, rfl, rfl, Int.le_refl _, Int.le_refl _, grow_refl _⟩
  case round =>
    obtain ⟨k, hk, rfl, rfl, hs1, hs2, hg⟩ := hrel
    have G := Lib.hid hg
    clear hg
    have hz := G.out.size
    by_cases hlt : k < l.length
    · obtain ⟨b1, o1, rfl, hc⟩ := HR.out.resolve_left (by intro h; rw [h] at hlt; exact absurd hlt (by simp))
      obtain ⟨rs, cs, e0, e1, e2, e3, hsp⟩ := hc k hlt
      have hb1 : b1 < w.heap.size := lt_of_cellS e0
      rw [← G.out.cell (p := ⟨b1, _, none⟩) hb1] at e0 e1 e2 e3
      have hb1' : b1 < wr.heap.size := Nat.lt_of_lt_of_le hb1 hz
      have hi0 : (0 : Int) ≤ (k : Int) := by omega
      have hi1 : (k : Int) < (l.length : Int) := by omega
      have hxk := HX.out _ (at_mem hlt)
      have HS := Lib.hid (show wUp l X (k + 1) = if X.testBit k then wUp l X k + (at_ l k).worth else wUp l X k from rfl)
      clear hc hsp
      generalize at_ l k = x at e0 e1 e2 e3 hxk HS
      obtain ⟨nm, wn, lg, wt⟩ := x
      simp only at e0 e1 e2 e3 hxk HS
      have HA := and_bit X hX k (by omega)
      cases ht : X.testBit k with
      | true =>
        rw [ht] at HA HS
        have HS2 := Lib.hid (show wUp l X (k + 1) = wUp l X k + wt from HS.out)
        clear HS ht
        generalize wUp l X k = s at hs1 hs2 HS2 ⊢
        go_wp2
        go_roundw
        case rel => exact ⟨k + 1, by omega, by rw [HS2.out], by go_num, by rw [HS2.out]; omega, by rw [HS2.out]; omega, by (repeat (with_reducible first | exact G.out | refine Grow.grow_drewN ?_ _ | refine Grow.grow_drew ?_ | refine Grow.grow_alloc ?_ _))⟩
        case measure => simp [intOf]; omega
      | false =>
        rw [ht] at HA HS
        have HS2 := Lib.hid (show wUp l X (k + 1) = wUp l X k from HS.out)
        clear HS ht
        generalize wUp l X k = s at hs1 hs2 HS2 ⊢
        go_wp2
        go_roundw
        case rel => exact ⟨k + 1, by omega, by rw [HS2.out], by go_num, by rw [HS2.out]; omega, by rw [HS2.out]; omega, by (repeat (with_reducible first | exact G.out | refine Grow.grow_drewN ?_ _ | refine Grow.grow_drew ?_ | refine Grow.grow_alloc ?_ _))⟩
        case measure => simp [intOf]; omega
    · obtain rfl : k = l.length := by omega
      go_wp2
      go_ret
      exact ⟨rfl, G.out⟩
end Go.Proofs.YtjjjbkehmnfgbaaDoor
