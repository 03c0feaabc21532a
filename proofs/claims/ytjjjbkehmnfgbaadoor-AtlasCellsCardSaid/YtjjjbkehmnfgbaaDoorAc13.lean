/- Cells of directions: rows of names; whether two are the same. -/
import Derived.Test.YtjjjbkehmnfgbaaDoorAc12
set_option linter.unusedSimpArgs false
set_option linter.unusedVariables false
namespace Go.Proofs.YtjjjbkehmnfgbaaDoor
open Go.RowKit Go.Grow Go.Atl

def StrAt (w : World) (r : Option Addr) (l : List ByteArray) : Prop := l = [] ∨ ∃ b o, r = some ⟨b, o, none⟩ ∧ ∀ k (h : k < l.length), w.cell? ⟨b, o + k, none⟩ = some (.string l[k])
theorem StrAt.below {w w' : World} {r : Option Addr} {l : List ByteArray} (h : StrAt w r l) (hb : Below w.heap.size w w') : StrAt w' r l := by
  rcases h with h | ⟨b, o, hr, h⟩
  · exact .inl h
  · exact .inr ⟨b, o, hr, fun k hk => (hb.cell (p := ⟨b, o + k, none⟩) (lt_of_cellE (h k hk))).trans (h k hk)⟩
def stL (l : List ByteArray) : List Value := l.map Value.string
theorem stL_append (a b : List ByteArray) : stL (a ++ b) = stL a ++ stL b := by simp [stL]
theorem str_of_owns {w : World} {base n : Nat} {v : Value} {p : List ByteArray} {e : TypeId} (h : w.ownsRow base e 1 v n (stL p)) : ∃ r cap, v = .slice r p.length cap ∧ (r = none → cap = 0) ∧ StrAt w r p := by
  have hlen : n = p.length := by have := h.1; simp [stL] at this; omega
  subst hlen
  obtain ⟨hl, ⟨hv, hn⟩ | ⟨g, cap, cur, hv, hg⟩⟩ := h
  · exact ⟨none, 0, by rw [hv, hn], fun _ => rfl, .inl (List.length_eq_zero_iff.1 hn)⟩
  · subst hv
    have hc := owns_cellsE (w := w) (base := base) (e := e) (size := 1) (g := g) (n := p.length) (cap := cap) (xs := stL p) ⟨hl, .inr ⟨g, cap, cur, rfl, hg⟩⟩
    refine ⟨some ⟨g, 0, none⟩, cap, rfl, fun h => by simp at h, .inr ⟨g, 0, rfl, fun k hk => ?_⟩⟩
    rw [Nat.zero_add]
    exact hc _ _ (by simp [stL, hk])
set_option maxRecDepth 100000 in
set_option maxHeartbeats 16000000 in
theorem same_walk (ra rb : Option Addr) (la lb : List ByteArray) (ca cb : Nat) (w : World) (hl : la.length ≤ 1000000) (hl2 : lb.length ≤ 1000000) (ha : StrAt w ra la) (hb : StrAt w rb lb) :
    Calls Tryd.prog 27 #[.slice ra la.length ca, .slice rb lb.length cb] w fun e w' => e = .returned (.bool (decide (la = lb))) ∧ Below w.heap.size w w' := by
  have HA := Lib.hid ha
  have HB := Lib.hid hb
  clear ha hb
  by_cases c0 : la.length = lb.length
  rotate_left
  · have HZ := Lib.hid (show decide (la = lb) = false from decide_eq_false (fun h => c0 (by rw [h])))
    have d0 : decide ((la.length : Int) = (lb.length : Int)) = false := decide_eq_false (by omega)
    go_enter Tryd.func27, Tryd.ntmps27
    go_wp2
    go_ret
    exact ⟨by rw [HZ.out]; rfl, grow_refl _⟩
  · have HL := Lib.hid c0
    have d0 : decide ((la.length : Int) = (lb.length : Int)) = true := decide_eq_true (by omega)
    go_enter Tryd.func27, Tryd.ntmps27
    go_wp2
    go_loopw [5] (fun v5 wr => ∃ k : Nat, k ≤ la.length ∧ v5 = .int .i64 k ∧ Hid (la.take k = lb.take k) ∧ Below w.heap.size w wr) (fun i _ => la.length - (intOf i).toNat)
    case atStart => exact ⟨0, Nat.zero_le _, rfl, Lib.hid rfl, grow_refl _⟩
    case round =>
      obtain ⟨k, hk, rfl, HI, hg⟩ := hrel
      have G := Lib.hid hg
      clear hg
      by_cases hlt : k < la.length
      · have hlt2 : k < lb.length := by omega
        obtain ⟨b1, o1, rfl, hc1⟩ := HA.out.resolve_left (by intro h; rw [h] at hlt; exact absurd hlt (by simp))
        obtain ⟨b2, o2, rfl, hc2⟩ := HB.out.resolve_left (by intro h; rw [h] at hlt2; exact absurd hlt2 (by simp))
        have e1 := hc1 k hlt
        have e2 := hc2 k hlt2
        have m1 : b1 < w.heap.size := lt_of_cellE e1
        have m2 : b2 < w.heap.size := lt_of_cellE e2
        rw [← G.out.cell (p := ⟨b1, _, none⟩) m1] at e1
        rw [← G.out.cell (p := ⟨b2, _, none⟩) m2] at e2
        have hz := G.out.size
        have l1 : b1 < wr.heap.size := by omega
        have l2 : b2 < wr.heap.size := by omega
        have hi0 : (0 : Int) ≤ (k : Int) := by omega
        have hi1 : (k : Int) < (la.length : Int) := by omega
        have hi2 : (k : Int) < (lb.length : Int) := by omega
        have HT := Lib.hid (show la[k] = lb[k] → la.take (k + 1) = lb.take (k + 1) from fun h => by rw [List.take_succ_eq_append_getElem hlt, List.take_succ_eq_append_getElem hlt2, HI.out, h])
        have HF := Lib.hid (show la[k] ≠ lb[k] → decide (la = lb) = false from fun h => decide_eq_false (fun e => h (by subst e; rfl)))
        clear hc1 hc2 HI
        generalize la[k] = x at *
        generalize lb[k] = y at *
        by_cases c3 : x = y
        · have d3 : (x.toList == y.toList) = true := by rw [toList_decE]; exact decide_eq_true c3
          have HX := Lib.hid (HT.out c3)
          clear c3 HT HF
          go_wp2
          go_quiet (fail)
          go_wp2
          go_roundw
          case rel => exact ⟨k + 1, by omega, by go_num, HX, by (repeat (with_reducible first | exact G.out | refine Grow.grow_drewN ?_ _ | refine Grow.grow_drew ?_))⟩
          case measure => simp [intOf]; omega
        · have d3 : (x.toList == y.toList) = false := by rw [toList_decE]; exact decide_eq_false c3
          have HX := Lib.hid (HF.out c3)
          clear c3 HT HF
          go_wp2
          go_quiet (fail)
          go_wp2
          go_ret
          exact ⟨by rw [HX.out]; rfl, by (repeat (with_reducible first | exact G.out | refine Grow.grow_drewN ?_ _ | refine Grow.grow_drew ?_))⟩
      · obtain rfl : k = la.length := by omega
        have HX := Lib.hid (show decide (la = lb) = true from decide_eq_true (by have := HI.out; rw [List.take_length, HL.out, List.take_length] at this; exact this))
        go_wp2
        go_ret
        exact ⟨by rw [HX.out]; rfl, G.out⟩
end Go.Proofs.YtjjjbkehmnfgbaaDoor
