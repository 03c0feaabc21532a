/- SpinChains: the law's walk. -/
import Derived.Test.YtdnclgpjcgamgaaS20
import Derived.Test.YtdnclgpjcgamgaaS4
set_option linter.unusedSimpArgs false
set_option linter.unusedVariables false
namespace Go.Proofs.Ytdnclgpjcgamgaa
open Go.RowKit Go.Fl Go.Grow

def numV (bb : Nat → Nat) (m : Nat) : List Value := (List.range m).map fun i => Value.float .f64 (bb i)
theorem numV_succ (bb : Nat → Nat) (k : Nat) : numV bb (k * 4) ++ [.float .f64 (bb (k * 4)), .float .f64 (bb (k * 4 + 1)), .float .f64 (bb (k * 4 + 2)), .float .f64 (bb (k * 4 + 3))] = numV bb ((k + 1) * 4) := by
  unfold numV
  rw [show (k + 1) * 4 = k * 4 + 1 + 1 + 1 + 1 by omega]
  simp [List.range_succ]
theorem numV_at (bb : Nat → Nat) (m i : Nat) (h : i < m) : (numV bb m)[i]? = some (.float .f64 (bb i)) := by simp [numV, h]
theorem info27 : (Try.prog.info? 27).map (fun i => (i.zero, i.size, i.bytes)) = some (some (.agg #[.float .f64 0, .float .f64 0, .float .f64 0, .float .f64 0]), 4, 32) := by kernel_rfl
theorem chAdd_zero (g j : Nat) : (⟨g, 0, none⟩ : Addr).add j = ⟨g, j, none⟩ := by
  cases j with
  | zero => rfl
  | succ j => simp [Addr.add]
theorem row_new (w : World) (xs : List Value) (t : TypeId) : ∀ j u, xs[j]? = some u → (w.alloc (.cells xs.toArray t)).cell? ((⟨w.heap.size, 0, none⟩ : Addr).add j) = some u := fun j u h => by
  rw [chAdd_zero, cell?_cells]; simpa using h
theorem four_cell (a b c d : Nat) : ∀ u ∈ [Value.float .f64 a, Value.float .f64 b, Value.float .f64 c, Value.float .f64 d], u.oneCell' = true := fun u h => by
  simp at h; rcases h with rfl | rfl | rfl | rfl <;> rfl
theorem grown_of_below {w w' : World} (h : Below w.heap.size w w') : w.grownBy w' none := ⟨h.os, h.tape, h.output, h.size, fun k hk _ => h.block k hk⟩
theorem owns_below {w w' : World} {base : Nat} {e : TypeId} {size : Nat} {v : Value} {n : Nat} {xs : List Value} (h : w.ownsRow base e size v n xs) (hb : Below w.heap.size w w') : w'.ownsRow base e size v n xs := by
  refine h.kept (grown_of_below hb) ?_
  cases hv : v.ownBlock with
  | none => exact .inl rfl
  | some k => exact .inr (by simp)
theorem chGrown {a w w' : World} {row : Option Nat} (h : Below a.heap.size a w) (hg : w.grownBy w' row) (hr : ∀ k, row = some k → a.heap.size ≤ k) : Below a.heap.size a w' :=
  h.trans ⟨hg.os, hg.tape, hg.output, hg.size, fun k hk => hg.block k (Nat.lt_of_lt_of_le hk h.size) (fun e => by have := hr k e.symm; omega)⟩
/-- At the loop's head. -/
def CopyRel (bb : Nat → Nat) (n : Nat) (w : World) (v4 v5 : Value) (wr : World) : Prop :=
  ∃ k : Nat, k ≤ n ∧ v5 = .int .i64 k ∧ wr.ownsRow w.heap.size 27 4 v4 k (numV bb (k * 4)) ∧ Below w.heap.size w wr
theorem nums_of_own {w : World} {base : Nat} {g cap n : Nat} {bb : Nat → Nat} (h : w.ownsRow base 27 4 (.slice (some ⟨g, 0, none⟩) n cap) n (numV bb (n * 4))) : NumsIn w (some ⟨g, 0, none⟩) (n * 4) bb := fun _ =>
  ⟨g, 0, rfl, fun i hi => by
    have := h.cells (g := g) rfl i _ (numV_at bb (n * 4) i hi)
    rw [chAdd_zero] at this
    rw [Nat.zero_add]; exact this⟩
set_option maxRecDepth 100000 in
set_option maxHeartbeats 4000000 in
theorem spinChains_walk (r : Option Addr) (n cap : Nat) (bb : Nat → Nat) (w : World) (hs : NumsIn w r (n * 4) bb) (hn : n ≤ 9223372036854775807) : Calls Try.prog 5 #[.slice r n cap] w (Post (fun v => v = .bool true) w) := by
  obtain ⟨i0, hi, hz0, hz1, hz2⟩ := info_parts info27
  have HI := Lib.hid hi
  have HZ0 := Lib.hid hz0
  have HZ1 := Lib.hid hz1
  have HZ2 := Lib.hid hz2
  have HS := Lib.hid hs
  clear hi hz0 hz1 hz2 hs
  by_cases h200 : n ≤ 200
  · cases hX : (chq (qAt bb) n).2
    all_goals
      have HX := Lib.hid hX
      clear hX
      go_enter Try.func5, Try.ntmps5
      go_wp2_with (go_at_call 12; refine (turns_walk _).mono ?_; rintro e w1 ⟨v, rfl, rfl, hB⟩; have HB1 := Lib.hid hB; have hz1 := hB.size; clear hB)
      go_loopw [4, 5] (fun v4 v5 wr => CopyRel bb n w v4 v5 wr) (fun _ i _ => n - (intOf i).toNat)
      case atStart => exact ⟨0, Nat.zero_le _, rfl, World.ownsRow_nil _ _ _ _, HB1.out⟩
      case round =>
        obtain ⟨k, hk, rfl, hown, hb⟩ := hrel
        have HO := Lib.hid hown
        have HB := Lib.hid hb
        clear hown hb HB1
        by_cases hlt : k < n
        · obtain ⟨b, o, hr, hcell⟩ := (HS.out.below HB.out) (by omega)
          subst hr
          have e0 := hcell (k * 4) (by omega)
          have e1 := hcell (k * 4 + 1) (by omega)
          have e2 := hcell (k * 4 + 2) (by omega)
          have e3 := hcell (k * 4 + 3) (by omega)
          simp only [← Nat.add_assoc] at e1 e2 e3
          clear hcell
          have C3 := Lib.hid (show k + 1 ≤ maxLen by unfold maxLen; omega)
          have C4 := Lib.hid (show (k + 1) * 32 ≤ 140737488355328 by omega)
          go_wp2_with (first
            | (go_at_call 14; refine (q_walk _ _ _ _ _).mono ?_; rintro e w1 ⟨v, rfl, rfl, hB⟩; have HO1 := Lib.hid (owns_below HO.out hB); have HB1 := Lib.hid (grow_trans HB.out hB); have C5 : ∀ o, Hid (w.heap.size ≤ (w1.alloc o).heap.size) := fun o => Lib.hid (by have := HB1.out.size; simp; omega); clear hB)
            | (at_builtin; refine wpList_append_own _ rfl _ _ 47 rfl w.heap.size 27 i0 (.agg #[.float .f64 0, .float .f64 0, .float .f64 0, .float .f64 0]) 4 32 Try.underlying47 HI.out HZ0.out HZ1.out HZ2.out rfl (by decide) _ _ _ rfl (HO1.out.alloc _) ⟨w1.heap.size, 0, none⟩ 1 1 [.float .f64 (bb (k * 4)), .float .f64 (bb (k * 4 + 1)), .float .f64 (bb (k * 4 + 2)), .float .f64 (bb (k * 4 + 3))] rfl rfl (row_new _ _ _) (four_cell _ _ _ _) C3.out C4.out (C5 _).out ?_))
          intro v' w2 hown' hg _
          have hown2 : w2.ownsRow w.heap.size 27 4 v' (k + 1) (numV bb ((k + 1) * 4)) := by rw [← numV_succ]; exact hown'
          have hb1 : Below w.heap.size w w2 := chGrown (grow_alloc HB1.out _) hg (fun j hj => (HO1.out.lt j hj).1)
          have HO2 := Lib.hid hown2
          have HB2 := Lib.hid hb1
          clear hown' hown2 hb1 hg HO HB HO1 HB1 e0 e1 e2 e3 C3 C4 C5
          go_wp2
          go_roundw
          case rel => exact ⟨k + 1, by omega, by go_num, HO2.out, HB2.out⟩
          case measure => simp [intOf]; omega
        · obtain rfl : k = n := by omega
          have HN2 := Lib.hid (HS.out.below HB.out)
          have hown := HO.out
          obtain ⟨hl, ⟨hv, hn0⟩ | ⟨g, cap', cur, rfl, hg1, hg2, hg3, hg4, hg5, hg6⟩⟩ := hown
          · subst hv
            subst hn0
            have HN1 := Lib.hid (show NumsIn wr none (0 * 4) bb from fun h => absurd h (by omega))
            clear hl HO
            have s0 := trivial
            go_wp2_with (first
              | (clear s0; go_at_call 26; refine (chain_walk _ _ _ bb _ HN1.out h200).mono ?_; rintro e w1 ⟨v, rfl, ⟨q, ⟨b1, b2, b3, b4, rfl, g1, g2, g3, g4⟩, hv⟩, hB⟩; rw [HX.out] at hv; subst hv; have G1 := Lib.hid g1; have G2 := Lib.hid g2; have G3 := Lib.hid g3; have G4 := Lib.hid g4; clear g1 g2 g3 g4; have HN3 := Lib.hid (HN2.out.below hB); have HB1 := Lib.hid hB; have hz1 := hB.size; clear hB; have s1 := trivial)
              | (clear s1; go_at_call 27; refine (chainOf_walk _ _ _ bb _ (HN3.out.below (Grow.grow_alloc (Grow.grow_refl _) _)) h200).mono ?_; rintro e w2 ⟨v, rfl, ⟨q, ⟨c1, c2, c3, c4, rfl, g1, g2, g3, g4⟩, hv⟩, hB⟩; rw [HX.out] at hv; subst hv; have K1 := Lib.hid g1; have K2 := Lib.hid g2; have K3 := Lib.hid g3; have K4 := Lib.hid g4; clear g1 g2 g3 g4; obtain ⟨hc2, hf2, hz2⟩ := facts hB; have HB2 := Lib.hid hB; clear hB; (try simp only [World.size_alloc, World.size_setCell, World.heap_drewN] at hc2 hf2 hz2))
              | (go_at_call 13; refine (sameQ_walk _ _ _ _ _ _ _ _ (G1.out.trans K1.out.symm) (G2.out.trans K2.out.symm) (G3.out.trans K3.out.symm) (G4.out.trans K4.out.symm) _).mono ?_; rintro e w3 ⟨v, rfl, rfl, hB⟩; have HB3 := Lib.hid hB; clear hB))
            go_ret
            exact Post.mk (T := fun v => v = _) (by simp) (by (repeat (with_reducible first | exact Grow.grow_refl _ | refine Grow.grow_setCell ?_ ?_ _ | refine Grow.grow_alloc ?_ _ | refine Grow.grow_drewN ?_ _ | refine Grow.grow_over ?_ _ | refine Grow.grow_via (by assumption) ?_)) <;> omega)
          · have HN1 := Lib.hid (nums_of_own HO.out)
            clear hl hg2 hg4 hg5 hg6 HO
            have s0 := trivial
            go_wp2_with (first
              | (clear s0; go_at_call 26; refine (chain_walk _ _ _ bb _ HN1.out h200).mono ?_; rintro e w1 ⟨v, rfl, ⟨q, ⟨b1, b2, b3, b4, rfl, g1, g2, g3, g4⟩, hv⟩, hB⟩; rw [HX.out] at hv; subst hv; have G1 := Lib.hid g1; have G2 := Lib.hid g2; have G3 := Lib.hid g3; have G4 := Lib.hid g4; clear g1 g2 g3 g4; have HN3 := Lib.hid (HN2.out.below hB); have HB1 := Lib.hid hB; have hz1 := hB.size; clear hB; have s1 := trivial)
              | (clear s1; go_at_call 27; refine (chainOf_walk _ _ _ bb _ (HN3.out.below (Grow.grow_alloc (Grow.grow_refl _) _)) h200).mono ?_; rintro e w2 ⟨v, rfl, ⟨q, ⟨c1, c2, c3, c4, rfl, g1, g2, g3, g4⟩, hv⟩, hB⟩; rw [HX.out] at hv; subst hv; have K1 := Lib.hid g1; have K2 := Lib.hid g2; have K3 := Lib.hid g3; have K4 := Lib.hid g4; clear g1 g2 g3 g4; obtain ⟨hc2, hf2, hz2⟩ := facts hB; have HB2 := Lib.hid hB; clear hB; (try simp only [World.size_alloc, World.size_setCell, World.heap_drewN] at hc2 hf2 hz2))
              | (go_at_call 13; refine (sameQ_walk _ _ _ _ _ _ _ _ (G1.out.trans K1.out.symm) (G2.out.trans K2.out.symm) (G3.out.trans K3.out.symm) (G4.out.trans K4.out.symm) _).mono ?_; rintro e w3 ⟨v, rfl, rfl, hB⟩; have HB3 := Lib.hid hB; clear hB))
            go_ret
            exact Post.mk (T := fun v => v = _) (by simp) (by (repeat (with_reducible first | exact Grow.grow_refl _ | refine Grow.grow_setCell ?_ ?_ _ | refine Grow.grow_alloc ?_ _ | refine Grow.grow_drewN ?_ _ | refine Grow.grow_over ?_ _ | refine Grow.grow_via (by assumption) ?_)) <;> omega)
  · have h200' : (200 : Int) < n := by omega
    go_enter Try.func5, Try.ntmps5
    go_wp2_with (go_at_call 12; refine (turns_walk _).mono ?_; rintro e w1 ⟨v, rfl, rfl, hB⟩; have HB1 := Lib.hid hB; have hz1 := hB.size; clear hB)
    go_ret
    exact Post.mk (T := fun v => v = _) rfl (by (repeat (with_reducible first | exact Grow.grow_refl _ | refine Grow.grow_setCell ?_ ?_ _ | refine Grow.grow_alloc ?_ _ | refine Grow.grow_drewN ?_ _ | refine Grow.grow_over ?_ _ | refine Grow.grow_via (by assumption) ?_)) <;> omega)

end Go.Proofs.Ytdnclgpjcgamgaa
