/- Chains of turns, against. -/
import Derived.Test.YtdnclgpjcgamgaaDoorSk6
set_option linter.unusedSimpArgs false
set_option linter.unusedVariables false
namespace Go.Proofs.YtdnclgpjcgamgaaDoor
open Go.RowKit Go.Fl Go.Grow Go.Tr

theorem against_step (l : List (Int × Int)) (k : Nat) (h : k < l.length) (v : V3) : Fe.againstF (l.drop k) v = Fe.trF l[k].1 (-nrm l[k].2) (Fe.againstF (l.drop (k + 1)) v) := by
  rw [List.drop_eq_getElem_cons h]; rfl
/-- At the loop's head. -/
def AgRel (l : List (Int × Int)) (V0 : V3) (w : World) (v : Value) (wr : World) : Prop :=
  ∃ (m : Nat) (b1 b2 b3 : Nat), m ≤ l.length ∧ v = .int .i64 ((m : Int) - 1) ∧ V3.mk (fl b1) (fl b2) (fl b3) = Fe.againstF (l.drop m) V0 ∧
    Known wr w.heap.size #[.float .f64 b1, .float .f64 b2, .float .f64 b3] ∧ Known wr (w.heap.size + 1) #[.float .f64 0, .float .f64 0, .float .f64 0] ∧ Below w.heap.size w wr
def SpecAg : FuncId → Array Value → Value → Prop
  | 20, ⟨[.int .i64 a]⟩, v => v = .int .i64 (nrm a)
  | 27, ⟨[.int .i64 ax, .int .i64 k, .agg ⟨[.float .f64 a, .float .f64 b, .float .f64 c]⟩]⟩, v => IsV (Fe.trF ax k ⟨fl a, fl b, fl c⟩) v
  | _, _, _ => False
theorem norm_post (a : Int) (w : World) : Calls Tryd.prog 20 #[.int .i64 a] w (Post (fun v => v = .int .i64 (nrm a)) w) :=
  (norm_walk a w).mono fun e w' h => by rw [h.1, ← h.2]; exact Post.mk (T := fun v => v = _) rfl (Grow.grow_refl _)

set_option maxRecDepth 100000 in
set_option maxHeartbeats 8000000 in
theorem against_bad (a : Nat → Addr) (r : Option Addr) (l : List (Int × Int)) (cap a1 a2 a3 : Nat) (w : World) (hs : Sen a [2, 5] w) (hl : l.length ≤ 60) (hr : SpAt w r l) (h : stE l = 5) :
    Calls Tryd.prog 14 #[.slice r l.length cap, .agg #[.float .f64 a1, .float .f64 a2, .float .f64 a3]] w (Post (IsAl a l (Fe.againstF l ⟨fl a1, fl a2, fl a3⟩)) w) := by
  have HV := Lib.hid (fun x (hx : Below w.heap.size w x) => valid_walk a r l cap x (hs.below hx) hl (hr.below hx))
  have HR := Lib.hid hr
  clear hs hr
  rw [h] at HV
  rw [errV_pos a (k := 5) (by decide)] at HV
  have s0 := trivial
  go_enter Tryd.func14, Tryd.ntmps14
  go_wp2_with (first
    | (clear s0
       go_at_call 26
       refine Grow.seal_calls ?_
       intro W hW
       have HG : Hid (Below w.heap.size w W) := Lib.hid (by rw [hW.out]; (repeat (with_reducible first | exact Grow.grow_refl _ | refine Grow.grow_setCell ?_ ?_ _ | refine Grow.grow_alloc ?_ _ | refine Grow.grow_drewN ?_ _ | refine Grow.grow_over ?_ _ | refine Grow.grow_via (by assumption) ?_)) <;> omega)
       have HZ : w.heap.size ≤ W.heap.size := Below.size HG.out
       apply Grow.have_known (W := W)
       · rw [hW.out]; exact (Known.new _ _ _).alloc _
       intro q3
       (try simp only [World.size_alloc] at q3)
       apply Grow.have_known (W := W)
       · rw [hW.out]; exact Known.new _ _ _
       intro q4
       (try simp only [World.size_alloc] at q4)
       clear hW
       (with_reducible refine (HV.out _ HG.out).mono ?_)
       rintro e w1 ⟨rfl, hB⟩
       replace q3 := q3.below hB
       replace q4 := q4.below hB
       replace HG : Hid (Below w.heap.size w w1) := Lib.hid (Grow.grow_trans HG.out hB)
       replace HZ : w.heap.size ≤ w1.heap.size := Below.size HG.out
       clear hB
       have c3 := q3.cell; have f3 := q3.frozen; have l3 := q3.lt
       have c4 := q4.cell; have f4 := q4.frozen; have l4 := q4.lt
       have s1 := trivial))
  apply bodyPost_ret
  · simp [results, Tryd.results14, go_sem, *]; rfl
  · rfl
  · refine Post.mk (T := IsAl a l _) (isAl_bad h) ?_
    · (repeat (with_reducible first
        | exact Grow.grow_refl _
        | refine Grow.grow_setCell ?_ ?_ _
        | refine Grow.grow_alloc ?_ _
        | refine Grow.grow_drewN ?_ _
        | refine Grow.grow_over ?_ _
        | refine Grow.grow_via (by assumption) ?_)) <;> omega

set_option maxRecDepth 100000 in
set_option maxHeartbeats 8000000 in
theorem against_good (a : Nat → Addr) (r : Option Addr) (l : List (Int × Int)) (cap a1 a2 a3 : Nat) (w : World) (hs : Sen a [2, 5] w) (hl : l.length ≤ 60) (hr : SpAt w r l) (h : stE l = 0 ∧ ∀ s ∈ l, 0 ≤ s.1 ∧ s.1 ≤ 2) :
    Calls Tryd.prog 14 #[.slice r l.length cap, .agg #[.float .f64 a1, .float .f64 a2, .float .f64 a3]] w (Post (IsAl a l (Fe.againstF l ⟨fl a1, fl a2, fl a3⟩)) w) := by
  have HV := Lib.hid (fun x (hx : Below w.heap.size w x) => valid_walk a r l cap x (hs.below hx) hl (hr.below hx))
  have HR := Lib.hid hr
  clear hs hr
  rw [h.1] at HV
  rw [errV_zero a] at HV
  have s0 := trivial
  go_enter Tryd.func14, Tryd.ntmps14
  go_wp2_with (first
    | (clear s0
       go_at_call 26
       refine Grow.seal_calls ?_
       intro W hW
       have HG : Hid (Below w.heap.size w W) := Lib.hid (by rw [hW.out]; (repeat (with_reducible first | exact Grow.grow_refl _ | refine Grow.grow_setCell ?_ ?_ _ | refine Grow.grow_alloc ?_ _ | refine Grow.grow_drewN ?_ _ | refine Grow.grow_over ?_ _ | refine Grow.grow_via (by assumption) ?_)) <;> omega)
       have HZ : w.heap.size ≤ W.heap.size := Below.size HG.out
       apply Grow.have_known (W := W)
       · rw [hW.out]; exact (Known.new _ _ _).alloc _
       intro q3
       (try simp only [World.size_alloc] at q3)
       apply Grow.have_known (W := W)
       · rw [hW.out]; exact Known.new _ _ _
       intro q4
       (try simp only [World.size_alloc] at q4)
       clear hW
       (with_reducible refine (HV.out _ HG.out).mono ?_)
       rintro e w1 ⟨rfl, hB⟩
       replace q3 := q3.below hB
       replace q4 := q4.below hB
       replace HG : Hid (Below w.heap.size w w1) := Lib.hid (Grow.grow_trans HG.out hB)
       replace HZ : w.heap.size ≤ w1.heap.size := Below.size HG.out
       clear hB
       have c3 := q3.cell; have f3 := q3.frozen; have l3 := q3.lt
       have c4 := q4.cell; have f4 := q4.frozen; have l4 := q4.lt
       have s1 := trivial))
  refine Grow.seal_wp ?_
  intro W hW
  obtain rfl := hW.out
  clear hW
  go_loopw [7] (fun v wr => AgRel l ⟨fl a1, fl a2, fl a3⟩ w v wr) (fun i _ => (intOf i + 1).toNat)
  case atStart => exact ⟨l.length, _, _, _, Nat.le_refl _, by go_num, by rw [List.drop_length]; rfl, q3, q4, HG.out⟩
  case round =>
    clear s1 c3 f3 l3 c4 f4 l4 q3 q4 HG HZ
    obtain ⟨m, b1, b2, b3, hk, rfl, hq, q3, q4, hb⟩ := hrel
    have HG : Hid (Below w.heap.size w wr) := Lib.hid hb
    have HZ : w.heap.size ≤ wr.heap.size := Below.size hb
    have HQ := Lib.hid hq
    clear hb hq
    have c3 := q3.cell; have f3 := q3.frozen; have l3 := q3.lt
    have c4 := q4.cell; have f4 := q4.frozen; have l4 := q4.lt
    by_cases hlt : 0 < m
    · obtain ⟨ct, rfl⟩ : ∃ ct, m = ct + 1 := ⟨m - 1, by omega⟩
      have hlc : ct < l.length := by omega
      obtain ⟨b, o, rfl, hc⟩ := (HR.out.below HG.out).resolve_left (by intro h; rw [h] at hlc; exact absurd hlc (by simp))
      obtain ⟨e0, e1⟩ := hc ct hlc
      have hi0 : (0 : Int) ≤ (ct : Int) := by omega
      have hi1 : (ct : Int) < (l.length : Int) := by omega
      have HA := Lib.hid (show l[ct].1 = 0 ∨ l[ct].1 = 1 ∨ l[ct].1 = 2 by have := h.2 _ (List.getElem_mem hlc); omega)
      have HS := Lib.hid ((against_step l ct hlc ⟨fl a1, fl a2, fl a3⟩).trans (congrArg (Fe.trF l[ct].1 (-nrm l[ct].2)) HQ.out.symm))
      have hlb := lt_of_cellS e0
      simp only at hlb
      clear hc
      generalize l[ct] = y at e0 e1 HA HS
      obtain ⟨xa, xb⟩ := y
      simp only at e0 e1 HA HS
      have ej : (((ct + 1 : Nat) : Int) - 1) = (ct : Int) := by omega
      simp only [ej]
      clear ej
      have hnr := nrm_in xb
      go_wp2
      refine Rel.wp_region_rel_tail SpecAg 14 (by kernel_rfl) (lexTailB_of_fast (by kernel_rfl) (by kernel_rfl) (by kernel_rfl)) ?_
      simp only [List.append_eq, List.cons_append, List.nil_append, List.take_succ_cons, List.take_zero, List.drop_succ_cons, List.drop_zero]
      repeat (first
        | (refine rel_arith (by rfl) rfl (by rfl) rfl rfl ?_; intro b1 H1; simp only [Act.put, List.setIfInBounds_toArray, List.set_cons_zero, List.set_cons_succ])
        | (refine rel_call (f := 20) (args := #[.int .i64 _]) (by rfl) rfl (callAt_func rfl Tryd.func20 (by kernel_rfl) (by kernel_rfl) rfl) (keeps_over (fun v h => h) fun x => norm_post _ _) ?_; rintro _ rfl; skip; simp only [Act.put, List.setIfInBounds_toArray, List.set_cons_zero, List.set_cons_succ])
        | (refine rel_call (f := 27) (args := #[.int .i64 _, .int .i64 _, .agg #[.float .f64 _, .float .f64 _, .float .f64 _]]) (by rfl) rfl (callAt_func rfl Tryd.func27 (by kernel_rfl) (by kernel_rfl) rfl) (keeps_over (fun v h => h) fun x => turn_walk _ _ HA.out _ _ _ _) ?_; rintro _ ⟨t1, t2, t3, rfl, g1, g2, g3⟩; have GT := Lib.hid (v3_eqk g1 g2 g3); clear g1 g2 g3; simp only [Act.put, List.setIfInBounds_toArray, List.set_cons_zero, List.set_cons_succ])
        | (refine rel_plain (by rfl) rfl ?_; intro K hK; go_big_quiet_op; go_big_quiet_on)
        | (refine rel_skip (by rfl) ?_; simp only [Act.put, List.setIfInBounds_toArray, List.set_cons_zero, List.set_cons_succ]))
      refine Rel.wpRel_nil ?_
      intro w9 hB9 hG9
      clear c3 f3 c4 f4
      replace q3 := q3.below hB9
      replace q4 := q4.below hB9
      clear hG9
      replace HG : Hid (Below w.heap.size w w9) := Lib.hid (Grow.grow_trans HG.out hB9)
      replace HZ : w.heap.size ≤ w9.heap.size := Below.size HG.out
      clear hB9
      have c3 := q3.cell
      have f3 := q3.frozen
      have l3 := q3.lt
      have c4 := q4.cell
      have f4 := q4.frozen
      have l4 := q4.lt
      go_wp2
      go_roundw
      case rel =>
        refine ⟨ct, _, _, _, by omega, by first | rfl | go_num | simp, GT.out.trans HS.out.symm, ?_, ?_, ?_⟩
        · exact known_eq (by apply Known.at q3; (repeat (with_reducible first | exact q3 | apply Known.same | apply Known.other | apply Known.alloc | apply Known.drewN)) <;> omega) (by simp only [List.setIfInBounds_toArray, List.set_cons_zero, List.set_cons_succ])
        · apply Known.at q4; (repeat (with_reducible first | exact q4 | apply Known.same | apply Known.other | apply Known.alloc | apply Known.drewN)) <;> omega
        · (repeat (with_reducible first | exact Grow.grow_refl _ | refine Grow.grow_setCell ?_ ?_ _ | refine Grow.grow_alloc ?_ _ | refine Grow.grow_drewN ?_ _ | refine Grow.grow_over ?_ _ | refine Grow.grow_via (by assumption) ?_)) <;> omega
      case measure => first | (simp [intOf]; done) | (simp [intOf]; omega)
    · obtain rfl : m = 0 := by omega
      rw [List.drop_zero] at HQ
      go_wp2
      apply bodyPost_ret
      · simp [results, Tryd.results14, go_sem, *]; rfl
      · rfl
      · refine Post.mk (T := IsAl a l _) (isAl_good h.1 HQ.out) ?_
        · (repeat (with_reducible first | exact Grow.grow_refl _ | refine Grow.grow_setCell ?_ ?_ _ | refine Grow.grow_alloc ?_ _ | refine Grow.grow_drewN ?_ _ | refine Grow.grow_over ?_ _ | refine Grow.grow_via (by assumption) ?_)) <;> omega

theorem against_walk (a : Nat → Addr) (r : Option Addr) (l : List (Int × Int)) (cap a1 a2 a3 : Nat) (w : World) (hs : Sen a [2, 5] w) (hl : l.length ≤ 60) (hr : SpAt w r l) :
    Calls Tryd.prog 14 #[.slice r l.length cap, .agg #[.float .f64 a1, .float .f64 a2, .float .f64 a3]] w (Post (IsAl a l (Fe.againstF l ⟨fl a1, fl a2, fl a3⟩)) w) := by
  rcases stE_or l with h | h
  · exact against_good a r l cap a1 a2 a3 w hs hl hr h
  · exact against_bad a r l cap a1 a2 a3 w hs hl hr h
end Go.Proofs.YtdnclgpjcgamgaaDoor
