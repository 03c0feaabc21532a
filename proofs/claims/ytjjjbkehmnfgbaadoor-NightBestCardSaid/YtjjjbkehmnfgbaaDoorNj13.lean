/- The night's best plan: the document's, where all chains are tried. -/
import Derived.Test.YtjjjbkehmnfgbaaDoorNj12
set_option linter.unusedSimpArgs false
set_option linter.unusedVariables false
namespace Go.Proofs.YtjjjbkehmnfgbaaDoor
open Go.RowKit Go.Grow Go.Night

set_option maxRecDepth 100000 in
set_option maxHeartbeats 8000000 in
theorem soonest_walk (nm : ByteArray) (r : Option Addr) (l : List (Int × Int)) (cap : Nat) (lg wt t : Int) (w : World) (hl : l.length ≤ 1000000) (hr : SpAt w r l) (hlg : 1 ≤ lg ∧ lg ≤ 1099511627776) (ht : -4611686018427387904 ≤ t ∧ t ≤ 1152921504606846976)
    (hx : ∀ x ∈ l, -1152921504606846976 ≤ x.1 ∧ x.1 < x.2 ∧ x.2 ≤ 1152921504606846976) :
    Calls Tryd.prog 74 #[.agg #[.string nm, .slice r l.length cap, .int .i64 lg, .int .i64 wt], .int .i64 t] w fun e w' => e = .returned (soonV (l.findSome? (hit lg t))) ∧ Below w.heap.size w w' := by
  have HR := Lib.hid hr
  have HX := Lib.hid hx
  clear hr hx
  go_enter Tryd.func74, Tryd.ntmps74
  go_wp2
  go_loopw [6] (fun v6 wr => ∃ k : Nat, k ≤ l.length ∧ v6 = .int .i64 k ∧ Hid ((l.take k).findSome? (hit lg t) = none) ∧ Known wr w.heap.size #[.string nm, .slice r l.length cap, .int .i64 lg, .int .i64 wt] ∧ Below w.heap.size w wr) (fun i _ => l.length - (intOf i).toNat)
  case atStart => exact ⟨0, Nat.zero_le _, rfl, Lib.hid rfl, Known.new _ _ _, grow_alloc (grow_refl _) _⟩
  case round =>
    obtain ⟨k, hk, rfl, HI, hkn, hg⟩ := hrel
    have G := Lib.hid hg
    have K := Lib.hid hkn
    clear hg hkn
    have hz := G.out.size
    have hz2 := K.out.lt
    have q1 := K.out.cell 1
    have q2 := K.out.cell 2
    simp only [List.getElem?_toArray, List.getElem?_cons_zero, List.getElem?_cons_succ] at q1 q2
    by_cases hlt : k < l.length
    · obtain ⟨b1, o1, rfl, hc⟩ := HR.out.resolve_left (by intro h; rw [h] at hlt; exact absurd hlt (by simp))
      obtain ⟨e0, e1⟩ := hc k hlt
      have hb1 : b1 < w.heap.size := lt_of_cellS e0
      rw [← G.out.cell (p := ⟨b1, _, none⟩) hb1] at e0 e1
      have hb1' : b1 < wr.heap.size := Nat.lt_of_lt_of_le hb1 hz
      have hi0 : (0 : Int) ≤ (k : Int) := by omega
      have hi1 : (k : Int) < (l.length : Int) := by omega
      have hxk := HX.out _ (List.getElem_mem hlt)
      have HH := Lib.hid (fun (y : Int) (h : hit lg t l[k] = some y) => findSome_take (hit lg t) l k hlt HI.out h)
      have HS := Lib.hid (fun (h : hit lg t l[k] = none) => findSome_succ (hit lg t) l k hlt HI.out h)
      clear hc
      generalize l[k] = x at e0 e1 hxk HH HS
      obtain ⟨xa, xb⟩ := x
      rw [show hit lg t (xa, xb) = if max t xa ≤ xb - lg then some (max t xa) else none from rfl] at HH HS
      simp only at e0 e1 hxk
      rcases (show xa < t ∨ t ≤ xa by omega) with hm | hm
      · rw [show max t xa = t by omega] at HH HS
        have hn : decide (xa < t) = true := decide_eq_true hm
        by_cases c : t ≤ xb - lg
        · have HZ := Lib.hid (HH.out t (by rw [if_pos c]))
          have u := decide_eq_true (show t + lg ≤ xb by omega)
          clear HH HS HI
          go_wp2
          go_quiet (fail)
          go_wp2
          go_ret2
          exact ⟨by rw [HZ.out]; rfl, by (repeat (with_reducible first | exact G.out | refine Grow.grow_drewN ?_ _ | refine Grow.grow_drew ?_ | refine Grow.grow_alloc ?_ _))⟩
        · have HZ := Lib.hid (HS.out (by rw [if_neg c]))
          have u := decide_eq_false (show ¬ t + lg ≤ xb by omega)
          clear HH HS HI
          go_wp2
          go_quiet (fail)
          go_wp2
          go_roundw
          case rel => exact ⟨k + 1, by omega, by go_num, HZ, K.out.drewN _, by (repeat (with_reducible first | exact G.out | refine Grow.grow_drewN ?_ _ | refine Grow.grow_drew ?_ | refine Grow.grow_alloc ?_ _))⟩
          case measure => simp [intOf]; omega
      · rw [show max t xa = xa by omega] at HH HS
        have hn : decide (xa < t) = false := decide_eq_false (by omega)
        by_cases c : xa ≤ xb - lg
        · have HZ := Lib.hid (HH.out xa (by rw [if_pos c]))
          have u := decide_eq_true (show xa + lg ≤ xb by omega)
          clear HH HS HI
          go_wp2
          go_quiet (fail)
          go_wp2
          go_ret2
          exact ⟨by rw [HZ.out]; rfl, by (repeat (with_reducible first | exact G.out | refine Grow.grow_drewN ?_ _ | refine Grow.grow_drew ?_ | refine Grow.grow_alloc ?_ _))⟩
        · have HZ := Lib.hid (HS.out (by rw [if_neg c]))
          have u := decide_eq_false (show ¬ xa + lg ≤ xb by omega)
          clear HH HS HI
          go_wp2
          go_quiet (fail)
          go_wp2
          go_roundw
          case rel => exact ⟨k + 1, by omega, by go_num, HZ, K.out.drewN _, by (repeat (with_reducible first | exact G.out | refine Grow.grow_drewN ?_ _ | refine Grow.grow_drew ?_ | refine Grow.grow_alloc ?_ _))⟩
          case measure => simp [intOf]; omega
    · obtain rfl : k = l.length := by omega
      rw [List.take_length] at HI
      go_wp2
      go_ret2
      exact ⟨by rw [HI.out]; rfl, G.out⟩
/-- Which jobs are used, in block g, which is free to be written. -/
structure UsedAt (w : World) (g n u : Nat) : Prop where
  lt : g < w.heap.size
  frozen : ∀ i, w.frozen? ⟨g, i, none⟩ = false
  cell : ∀ i, i < n → w.cell? ⟨g, i, none⟩ = some (.bool (u.testBit i))
theorem UsedAt.below {w w' : World} {g n u : Nat} (h : UsedAt w g n u) (hb : Below w.heap.size w w') : UsedAt w' g n u :=
  ⟨Nat.lt_of_lt_of_le h.lt hb.size, fun i => (hb.frozen (p := ⟨g, i, none⟩) h.lt).trans (h.frozen i), fun i hi => (hb.cell (p := ⟨g, i, none⟩) h.lt).trans (h.cell i hi)⟩
theorem UsedAt.set {w : World} {g n u i : Nat} (h : UsedAt w g n u) (hi : i < n) : UsedAt (w.setCell ⟨g, i, none⟩ (.bool true)) g n (add u i) := by
  refine ⟨by simpa using h.lt, fun j => by rw [frozen?_setCell]; exact h.frozen j, fun j hj => ?_⟩
  rw [cell?_put, testBit_add]
  by_cases e : i = j
  · subst e; simp [h.cell i hi]
  · have e2 : ¬ (j = i) := fun h => e h.symm
    simp [e, e2, h.cell j hj]
theorem UsedAt.unset {w : World} {g n u i : Nat} (h : UsedAt w g n (add u i)) (hi : i < n) (hu : u.testBit i = false) : UsedAt (w.setCell ⟨g, i, none⟩ (.bool false)) g n u := by
  refine ⟨by simpa using h.lt, fun j => by rw [frozen?_setCell]; exact h.frozen j, fun j hj => ?_⟩
  rw [cell?_put]
  by_cases e : i = j
  · subst e; simp [h.cell i hi, hu]
  · have e2 : ¬ (j = i) := fun h => e h.symm
    have := h.cell j hj
    rw [testBit_add] at this
    simp [e, e2] at this ⊢
    exact this
theorem sum_in {l : List Jb} (hF : Fine l) : ∀ p : List Nat, (∀ k ∈ p, k < l.length) → 0 ≤ sum l p ∧ sum l p ≤ p.length * 1099511627776
  | [], _ => ⟨Int.le_refl _, Int.le_refl _⟩
  | k :: p, h => by
    obtain ⟨h1, h2⟩ := sum_in hF p fun i hi => h i (by simp [hi])
    have := hF.worth _ (at_mem (h k (by simp)))
    have e : sum l (k :: p) = (at_ l k).worth + sum l p := by simp [sum]
    rw [e]
    simp only [List.length_cons]
    omega
theorem mostF_in {l : List Jb} (hF : Fine l) (m u : Nat) (t : Int) : 0 ≤ mostF l m u t ∧ mostF l m u t ≤ l.length * 1099511627776 := by
  obtain ⟨p, e, hf, _, hs⟩ := mostF_is l m u t
  rw [← hs]
  obtain ⟨h1, h2⟩ := sum_in hF p hf.lt
  have h3 : p.length ≤ l.length := by
    have := List.Nodup.length_le_of_subset hf.nodup (show p ⊆ List.range l.length from fun x hx => List.mem_range.2 (hf.lt x hx))
    simpa using this
  have : (p.length : Int) ≤ l.length := by omega
  omega
theorem mostAt_in {l : List Jb} (hF : Fine l) (m u : Nat) (t : Int) (i : Nat) (hi : i ≤ l.length) : 0 ≤ mostAt l (mostF l m) u t i ∧ mostAt l (mostF l m) u t i ≤ (l.length + 1) * 1099511627776 := by
  rcases mostAt_is l (mostF l m) u t i hi with h | ⟨k, a, hk, _, _, h⟩
  · rw [h]; omega
  · rw [h]
    have h1 := hF.worth _ (at_mem (show k < l.length by omega))
    have h2 := mostF_in hF m (add u k) (a + (at_ l k).long)
    omega
end Go.Proofs.YtjjjbkehmnfgbaaDoor
