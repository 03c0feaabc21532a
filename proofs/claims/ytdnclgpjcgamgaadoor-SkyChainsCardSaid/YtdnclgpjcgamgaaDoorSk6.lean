/- Chains of turns, along. -/
import Derived.Test.YtdnclgpjcgamgaaDoorSk4
import Derived.Test.YtdnclgpjcgamgaaDoorSk5
import Derived.Deep.RegionWith
set_option linter.unusedSimpArgs false
set_option linter.unusedVariables false
namespace Go.Proofs.YtdnclgpjcgamgaaDoor
open Go.RowKit Go.Fl Go.Grow Go.Tr

theorem stE_or (l : List (Int × Int)) : (stE l = 0 ∧ ∀ s ∈ l, 0 ≤ s.1 ∧ s.1 ≤ 2) ∨ stE l = 5 := by
  unfold stE
  cases h : l.all axB
  · right; rfl
  · left
    refine ⟨rfl, fun s hs => ?_⟩
    have := List.all_eq_true.1 h s hs
    unfold axB at this
    simpa using this
theorem v3_eqk {a b c : Nat} {X : V3} (h1 : fl a = X.x) (h2 : fl b = X.y) (h3 : fl c = X.z) : V3.mk (fl a) (fl b) (fl c) = X := by rw [h1, h2, h3]
theorem along_snoc (l : List (Int × Int)) (k : Nat) (h : k < l.length) (v : V3) : Fe.alongF (l.take (k + 1)) v = Fe.trF l[k].1 l[k].2 (Fe.alongF (l.take k) v) := by
  rw [take_snocS l k h]; unfold Fe.alongF; rw [List.foldl_append]; rfl
/-- What a chain gives: a vector, and an error. -/
def IsAl (a : Nat → Addr) (l : List (Int × Int)) (X : V3) (v : Value) : Prop := ∃ x y z, v = .tuple #[.agg #[.float .f64 x, .float .f64 y, .float .f64 z], errV a (stE l)] ∧ V3.mk (fl x) (fl y) (fl z) = if stE l = 0 then X else ⟨fl 0, fl 0, fl 0⟩
theorem known_eq {w : World} {b : Nat} {c c' : Array Value} (h : Known w b c) (e : c = c') : Known w b c' := e ▸ h
theorem isAl_bad {a : Nat → Addr} {l : List (Int × Int)} {X : V3} (h : stE l = 5) : IsAl a l X (.tuple #[.agg #[.float .f64 0, .float .f64 0, .float .f64 0], .iface 106 (.pointer (some (a 5)))]) := by
  have e := errV_pos a (k := 5) (by decide)
  refine ⟨0, 0, 0, ?_, ?_⟩
  · rw [h, e]
  · rw [if_neg (by rw [h]; decide)]
theorem isAl_good {a : Nat → Addr} {l : List (Int × Int)} {X : V3} {x y z : Nat} (h : stE l = 0) (hx : V3.mk (fl x) (fl y) (fl z) = X) : IsAl a l X (.tuple #[.agg #[.float .f64 x, .float .f64 y, .float .f64 z], .nilIface]) := by
  refine ⟨x, y, z, ?_, ?_⟩
  · rw [h, errV_zero]
  · rw [if_pos h]; exact hx
/-- At the loop's head. -/
def AlRel (l : List (Int × Int)) (V0 : V3) (w : World) (v : Value) (wr : World) : Prop :=
  ∃ (k : Nat) (b1 b2 b3 : Nat), k ≤ l.length ∧ v = .int .i64 k ∧ V3.mk (fl b1) (fl b2) (fl b3) = Fe.alongF (l.take k) V0 ∧
    Known wr w.heap.size #[.float .f64 b1, .float .f64 b2, .float .f64 b3] ∧ Known wr (w.heap.size + 1) #[.float .f64 0, .float .f64 0, .float .f64 0] ∧ Below w.heap.size w wr

set_option maxRecDepth 100000 in
set_option maxHeartbeats 8000000 in
theorem along_bad (a : Nat → Addr) (r : Option Addr) (l : List (Int × Int)) (cap a1 a2 a3 : Nat) (w : World) (hs : Sen a [2, 5] w) (hl : l.length ≤ 60) (hr : SpAt w r l) (h : stE l = 5) :
    Calls Tryd.prog 13 #[.slice r l.length cap, .agg #[.float .f64 a1, .float .f64 a2, .float .f64 a3]] w (Post (IsAl a l (Fe.alongF l ⟨fl a1, fl a2, fl a3⟩)) w) := by
  have HV := Lib.hid (fun x (hx : Below w.heap.size w x) => valid_walk a r l cap x (hs.below hx) hl (hr.below hx))
  have HR := Lib.hid hr
  clear hs hr
  rw [h] at HV
  rw [errV_pos a (k := 5) (by decide)] at HV
  have s0 := trivial
  go_enter Tryd.func13, Tryd.ntmps13
  go_wp2_with (first
    | (clear s0
       go_at_call 26
       refine Grow.seal_calls ?_
       intro W hW
       have HG : Hid (Below w.heap.size w W) := Lib.hid (by rw [hW.out]; (repeat (with_reducible first | exact Grow.grow_refl _ | refine Grow.grow_setCell ?_ ?_ _ | refine Grow.grow_alloc ?_ _ | refine Grow.grow_drewN ?_ _ | refine Grow.grow_over ?_ _ | refine Grow.grow_via (by assumption) ?_)) <;> omega)
       have HZ : w.heap.size ≤ W.heap.size := Below.size HG.out
       apply Grow.have_known (W := W)
       · rw [hW.out]; exact (Known.new _ _ _).alloc _
       intro q3
       (try simp only [World.size_alloc] at q3)
       apply Grow.have_known (W := W)
       · rw [hW.out]; exact Known.new _ _ _
       intro q4
       (try simp only [World.size_alloc] at q4)
       clear hW
       (with_reducible refine (HV.out _ HG.out).mono ?_)
       rintro e w1 ⟨rfl, hB⟩
       replace q3 := q3.below hB
       replace q4 := q4.below hB
       replace HG : Hid (Below w.heap.size w w1) := Lib.hid (Grow.grow_trans HG.out hB)
       replace HZ : w.heap.size ≤ w1.heap.size := Below.size HG.out
       clear hB
       have c3 := q3.cell; have f3 := q3.frozen; have l3 := q3.lt
       have c4 := q4.cell; have f4 := q4.frozen; have l4 := q4.lt
       have s1 := trivial))
  apply bodyPost_ret
  · simp [results, Tryd.results13, go_sem, *]; rfl
  · rfl
  · refine Post.mk (T := IsAl a l _) (isAl_bad h) ?_
    · (repeat (with_reducible first
        | exact Grow.grow_refl _
        | refine Grow.grow_setCell ?_ ?_ _
        | refine Grow.grow_alloc ?_ _
        | refine Grow.grow_drewN ?_ _
        | refine Grow.grow_over ?_ _
        | refine Grow.grow_via (by assumption) ?_)) <;> omega

set_option maxRecDepth 100000 in
set_option maxHeartbeats 8000000 in
theorem along_good (a : Nat → Addr) (r : Option Addr) (l : List (Int × Int)) (cap a1 a2 a3 : Nat) (w : World) (hs : Sen a [2, 5] w) (hl : l.length ≤ 60) (hr : SpAt w r l) (h : stE l = 0 ∧ ∀ s ∈ l, 0 ≤ s.1 ∧ s.1 ≤ 2) :
    Calls Tryd.prog 13 #[.slice r l.length cap, .agg #[.float .f64 a1, .float .f64 a2, .float .f64 a3]] w (Post (IsAl a l (Fe.alongF l ⟨fl a1, fl a2, fl a3⟩)) w) := by
  have HV := Lib.hid (fun x (hx : Below w.heap.size w x) => valid_walk a r l cap x (hs.below hx) hl (hr.below hx))
  have HR := Lib.hid hr
  clear hs hr
  rw [h.1] at HV
  rw [errV_zero a] at HV
  have s0 := trivial
  go_enter Tryd.func13, Tryd.ntmps13
  go_wp2_with (first
    | (clear s0
       go_at_call 26
       refine Grow.seal_calls ?_
       intro W hW
       have HG : Hid (Below w.heap.size w W) := Lib.hid (by rw [hW.out]; (repeat (with_reducible first | exact Grow.grow_refl _ | refine Grow.grow_setCell ?_ ?_ _ | refine Grow.grow_alloc ?_ _ | refine Grow.grow_drewN ?_ _ | refine Grow.grow_over ?_ _ | refine Grow.grow_via (by assumption) ?_)) <;> omega)
       have HZ : w.heap.size ≤ W.heap.size := Below.size HG.out
       apply Grow.have_known (W := W)
       · rw [hW.out]; exact (Known.new _ _ _).alloc _
       intro q3
       (try simp only [World.size_alloc] at q3)
       apply Grow.have_known (W := W)
       · rw [hW.out]; exact Known.new _ _ _
       intro q4
       (try simp only [World.size_alloc] at q4)
       clear hW
       (with_reducible refine (HV.out _ HG.out).mono ?_)
       rintro e w1 ⟨rfl, hB⟩
       replace q3 := q3.below hB
       replace q4 := q4.below hB
       replace HG : Hid (Below w.heap.size w w1) := Lib.hid (Grow.grow_trans HG.out hB)
       replace HZ : w.heap.size ≤ w1.heap.size := Below.size HG.out
       clear hB
       have c3 := q3.cell; have f3 := q3.frozen; have l3 := q3.lt
       have c4 := q4.cell; have f4 := q4.frozen; have l4 := q4.lt
       have s1 := trivial))
  refine Grow.seal_wp ?_
  intro W hW
  obtain rfl := hW.out
  clear hW
  go_loopw [17] (fun v wr => AlRel l ⟨fl a1, fl a2, fl a3⟩ w v wr) (fun i _ => l.length - (intOf i).toNat)
  case atStart => exact ⟨0, _, _, _, Nat.zero_le _, rfl, rfl, q3, q4, HG.out⟩
  case round =>
    clear s1 c3 f3 l3 c4 f4 l4 q3 q4 HG HZ
    obtain ⟨ct, b1, b2, b3, hk, rfl, hq, q3, q4, hb⟩ := hrel
    have HG : Hid (Below w.heap.size w wr) := Lib.hid hb
    have HZ : w.heap.size ≤ wr.heap.size := Below.size hb
    have HQ := Lib.hid hq
    clear hb hq
    have c3 := q3.cell; have f3 := q3.frozen; have l3 := q3.lt
    have c4 := q4.cell; have f4 := q4.frozen; have l4 := q4.lt
    by_cases hlt : ct < l.length
    · obtain ⟨b, o, rfl, hc⟩ := (HR.out.below HG.out).resolve_left (by intro h; rw [h] at hlt; exact absurd hlt (by simp))
      obtain ⟨e0, e1⟩ := hc ct hlt
      have hi0 : (0 : Int) ≤ (ct : Int) := by omega
      have hi1 : (ct : Int) < (l.length : Int) := by omega
      have HA := Lib.hid (show l[ct].1 = 0 ∨ l[ct].1 = 1 ∨ l[ct].1 = 2 by have := h.2 _ (List.getElem_mem hlt); omega)
      have HS := Lib.hid ((along_snoc l ct hlt ⟨fl a1, fl a2, fl a3⟩).trans (congrArg (Fe.trF l[ct].1 l[ct].2) HQ.out.symm))
      have hlb := lt_of_cellS e0
      simp only at hlb
      clear hc
      generalize l[ct] = y at e0 e1 HA HS
      obtain ⟨xa, xb⟩ := y
      simp only at e0 e1 HA HS
      have s0 := trivial
      go_wp2_with (first
          | (clear s0
             go_at_call 27
             refine Grow.seal_calls ?_
             intro W hW
             have HG2 : Hid (Below w.heap.size w W) := Lib.hid (by rw [hW.out]; (repeat (with_reducible first | exact Grow.grow_refl _ | refine Grow.grow_setCell ?_ ?_ _ | refine Grow.grow_alloc ?_ _ | refine Grow.grow_drewN ?_ _ | refine Grow.grow_over ?_ _ | refine Grow.grow_via (by assumption) ?_)) <;> omega)
             clear HG
             have HG := HG2
             clear HG2
             clear c3 f3 c4 f4
             apply Grow.have_known (W := W)
             · rw [hW.out]; apply Known.at q3; (repeat (with_reducible first | exact q3 | apply Known.same | apply Known.other | apply Known.alloc | apply Known.drewN)) <;> omega
             clear q3
             intro q3
             (try simp only [List.setIfInBounds_toArray, List.set_cons_zero, List.set_cons_succ] at q3)
             apply Grow.have_known (W := W)
             · rw [hW.out]; apply Known.at q4; (repeat (with_reducible first | exact q4 | apply Known.same | apply Known.other | apply Known.alloc | apply Known.drewN)) <;> omega
             clear q4
             intro q4
             (try simp only [List.setIfInBounds_toArray, List.set_cons_zero, List.set_cons_succ] at q4)
             apply Grow.have_known (W := W) (b := wr.heap.size)
             · rw [hW.out]; (repeat (with_reducible first | exact Known.new _ _ _ | apply Known.same | apply Known.other | apply Known.alloc | apply Known.drewN)) <;> omega
             intro q8
             (try simp only [World.size_alloc, World.size_setCell, World.heap_drewN] at q8)
             (try simp only [List.setIfInBounds_toArray, List.set_cons_zero, List.set_cons_succ] at q8)
             have m8 := q8.ge (n := w.heap.size) (by omega)
             replace HZ : w.heap.size ≤ W.heap.size := Below.size HG.out
             clear hW
             refine (turn_walk _ _ HA.out _ _ _ _).mono ?_
             rintro e w1 hp
             obtain ⟨v, rfl, hp, hB⟩ := hp
             obtain ⟨t1, t2, t3, rfl, g1, g2, g3⟩ := hp
             have GT := Lib.hid (v3_eqk g1 g2 g3); clear g1 g2 g3
             replace q3 := q3.below hB
             replace q4 := q4.below hB
             replace q8 := q8.below hB
             replace HG : Hid (Below w.heap.size w w1) := Lib.hid (Grow.grow_trans HG.out hB)
             replace HZ : w.heap.size ≤ w1.heap.size := Below.size HG.out
             clear hB
             have c3 := q3.cell; have f3 := q3.frozen; have l3 := q3.lt
             have c4 := q4.cell; have f4 := q4.frozen; have l4 := q4.lt
             have c8 := q8.cell; have f8 := q8.frozen; have l8 := q8.lt
             have s1 := trivial))
      go_roundw
      case rel =>
        refine ⟨ct + 1, _, _, _, by omega, by go_num, GT.out.trans HS.out.symm, ?_, ?_, ?_⟩
        · exact known_eq (by apply Known.at q3; (repeat (with_reducible first | exact q3 | apply Known.same | apply Known.other | apply Known.alloc | apply Known.drewN)) <;> omega) (by simp only [List.setIfInBounds_toArray, List.set_cons_zero, List.set_cons_succ])
        · apply Known.at q4; (repeat (with_reducible first | exact q4 | apply Known.same | apply Known.other | apply Known.alloc | apply Known.drewN)) <;> omega
        · (repeat (with_reducible first | exact Grow.grow_refl _ | refine Grow.grow_setCell ?_ ?_ _ | refine Grow.grow_alloc ?_ _ | refine Grow.grow_drewN ?_ _ | refine Grow.grow_over ?_ _ | refine Grow.grow_via (by assumption) ?_)) <;> omega
      case measure => simp [intOf]; omega
    · obtain rfl : ct = l.length := by omega
      rw [List.take_length] at HQ
      go_wp2
      apply bodyPost_ret
      · simp [results, Tryd.results13, go_sem, *]; rfl
      · rfl
      · refine Post.mk (T := IsAl a l _) (isAl_good h.1 HQ.out) ?_
        · (repeat (with_reducible first | exact Grow.grow_refl _ | refine Grow.grow_setCell ?_ ?_ _ | refine Grow.grow_alloc ?_ _ | refine Grow.grow_drewN ?_ _ | refine Grow.grow_over ?_ _ | refine Grow.grow_via (by assumption) ?_)) <;> omega

theorem along_walk (a : Nat → Addr) (r : Option Addr) (l : List (Int × Int)) (cap a1 a2 a3 : Nat) (w : World) (hs : Sen a [2, 5] w) (hl : l.length ≤ 60) (hr : SpAt w r l) :
    Calls Tryd.prog 13 #[.slice r l.length cap, .agg #[.float .f64 a1, .float .f64 a2, .float .f64 a3]] w (Post (IsAl a l (Fe.alongF l ⟨fl a1, fl a2, fl a3⟩)) w) := by
  rcases stE_or l with h | h
  · exact along_good a r l cap a1 a2 a3 w hs hl hr h
  · exact along_bad a r l cap a1 a2 a3 w hs hl hr h
end Go.Proofs.YtdnclgpjcgamgaaDoor
