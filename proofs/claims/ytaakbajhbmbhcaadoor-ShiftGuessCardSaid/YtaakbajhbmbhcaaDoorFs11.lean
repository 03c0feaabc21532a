/- The walk of the document's series. -/
import Derived.Test.YtaakbajhbmbhcaaDoorFs10
import Derived.Laws.AppendOwn
import Derived.LoopTactic
import Derived.Deep.LoopGhost
import Derived.Outline
set_option linter.unusedSimpArgs false
set_option linter.unusedVariables false
namespace Go.Proofs.YtaakbajhbmbhcaaDoor
open Go.RowKit Go.Fl Go.Grow Go.Tr

def coefs (odd n : Nat) : List Value := (List.range n).map fun j => Value.float .f64 (coN odd (j + 1))
theorem coefs_succ (odd n : Nat) : coefs odd n ++ [.float .f64 (coN odd (n + 1))] = coefs odd (n + 1) := by
  unfold coefs; rw [List.range_succ, List.map_append]; rfl
theorem coefs_length (odd n : Nat) : (coefs odd n).length = n := by simp [coefs]
theorem coefs_at (odd n j : Nat) (h : j < n) : (coefs odd n)[j]? = some (.float .f64 (coN odd (j + 1))) := by simp [coefs, h]
theorem info22 : (Tryd.prog.info? 25).map (fun i => (i.zero, i.size, i.bytes)) = some (some (.float .f64 0), 1, 8) := by kernel_rfl
theorem facN_one : facN 1 = 4607182418800017408 := by decide +kernel
def OutRel (odd : Nat) (w : World) (v5 v6 : Value) (wr : World) : Prop :=
  ∃ k : Nat, k ≤ 8 ∧ v6 = .int .i64 ((k : Int) + 1) ∧ wr.ownsRow w.heap.size 25 1 v5 k (coefs odd k) ∧ Below w.heap.size w wr
def InRel (m : Nat) (w : World) (v7 v8 : Value) (wr : World) : Prop :=
  ∃ i n : Nat, 1 ≤ i ∧ i ≤ m ∧ v8 = .int .i64 ((i : Int) + 1) ∧ v7 = .float .f64 (facN i) ∧ wr = w.drewN n
theorem grown_below {a w w' : World} {row : Option Nat} (h : Below a.heap.size a w) (hg : w.grownBy w' row) (hr : ∀ k, row = some k → a.heap.size ≤ k) : Below a.heap.size a w' :=
  h.trans ⟨hg.os, hg.tape, hg.output, hg.size, fun k hk => hg.block k (Nat.lt_of_lt_of_le hk h.size) (fun e => by have := hr k e.symm; omega)⟩
theorem add_zero (g j : Nat) : (⟨g, 0, none⟩ : Addr).add j = ⟨g, j, none⟩ := by
  cases j with
  | zero => rfl
  | succ j => simp [Addr.add]
theorem one_new (w : World) (x : Value) (t : TypeId) : ∀ j u, [x][j]? = some u → (w.alloc (.cells #[x] t)).cell? ((⟨w.heap.size, 0, none⟩ : Addr).add j) = some u := fun j u h => by
  cases j with
  | zero => simp at h; subst h; rw [add_zero, cell?_cells]; simp
  | succ j => simp at h
theorem one_cell (b : Nat) : ∀ u ∈ [Value.float .f64 b], u.oneCell' = true := fun u h => by simp at h; subst h; rfl
theorem grown_drew (w : World) (n : Nat) : w.grownBy (w.drewN n) none := ⟨rfl, rfl, rfl, Nat.le_refl _, fun _ _ _ => rfl⟩
theorem owns_drew {w : World} {base : Nat} {e : TypeId} {size : Nat} {v : Value} {n : Nat} {xs : List Value} (h : w.ownsRow base e size v n xs) (k : Nat) : (w.drewN k).ownsRow base e size v n xs := h
set_option maxRecDepth 100000 in
set_option maxHeartbeats 4000000 in
theorem series_walk (p odd : Nat) (ho : odd < 2) (w : World) : Calls Tryd.prog 73 #[.float .f64 p, .int .i64 odd] w (Post (IsF (ser ((List.range 8).map fun j => coN odd (j + 1)) (fl p))) w) := by
  obtain ⟨i0, hi, hz0, hz1, hz2⟩ := info_parts info22
  have HI := Lib.hid hi
  have HZ0 := Lib.hid hz0
  have HZ1 := Lib.hid hz1
  have HZ2 := Lib.hid hz2
  clear hi hz0 hz1 hz2
  go_enter Tryd.func73, Tryd.ntmps73
  go_wp2
  go_loopw [5, 6] (fun v5 v6 wr => OutRel odd w v5 v6 wr) (fun _ i _ => 9 - (intOf i).toNat)
  case atStart => exact ⟨0, by omega, rfl, World.ownsRow_nil _ _ _ _, Below.refl _ _⟩
  case round =>
    obtain ⟨k, hk, rfl, hown, hb⟩ := hrel
    have HO := Lib.hid hown
    have HB := Lib.hid hb
    clear hown hb
    obtain ⟨wo, hwo⟩ : ∃ wo : World, wo = wr := ⟨_, rfl⟩
    subst hwo
    by_cases h8 : k < 8
    · have CO := Lib.hid (coN_step odd ho (k + 1) (by omega))
      obtain ⟨m, hm⟩ : ∃ m, m = 2 * (k + 1) + odd := ⟨_, rfl⟩
      have hm1 : m ≤ 17 := by omega
      have hm2 : 2 ≤ m := by omega
      have hm3 : (m : Int) = 2 * ((k : Int) + 1) + odd := by omega
      have d8 : decide ((k : Int) + 1 ≤ 8) = true := by simp; omega
      have HM := Lib.hid hm
      have HM3 := Lib.hid hm3
      clear hm hm3
      go_wp2
      go_loopw [7, 8] (fun v7 v8 wx => InRel m wo v7 v8 wx) (fun _ i _ => m + 1 - (intOf i).toNat)
      case atStart => exact ⟨1, 0, by omega, by omega, rfl, by rw [facN_one], rfl⟩
      case round =>
        obtain ⟨i, n, hi1, hi2, rfl, rfl, rfl⟩ := hrel
        by_cases him : i < m
        · have him' : (i : Int) + 1 ≤ 2 * ((k : Int) + 1) + odd := by have := HM3.out; omega
          have FS := Lib.hid (facN_step i (by omega))
          go_wp2_with ((refine wpList_arith rfl rfl (by rfl) rfl rfl ?_; intro b1 n1 H1); obtain rfl := fl_some (H1.out.trans FS.out))
          go_roundw
          case rel => exact ⟨i + 1, _, by omega, by omega, by go_num, rfl, rfl⟩
          case measure => simp [intOf]; omega
        · have him' : ¬ ((i : Int) + 1 ≤ 2 * ((k : Int) + 1) + odd) := by have := HM3.out; omega
          obtain rfl : i = m := by omega
          have CO' := CO.out
          rw [← HM.out] at CO'
          have HCO := Lib.hid CO'
          clear CO' CO
          have C3 := Lib.hid (show k + 1 ≤ maxLen by unfold maxLen; omega)
          have C4 := Lib.hid (show (k + 1) * 8 ≤ 140737488355328 by omega)
          have C5 : ∀ n o, Hid (w.heap.size ≤ ((wo.drewN n).alloc o).heap.size) := fun n o => Lib.hid (by have := HB.out.size; simp; omega)
          by_cases hp : (k + 1) % 2 = 1
          all_goals
            have CO2 := HCO.out
            simp only [sgnN, hp, if_true, if_false] at CO2
            have HC2 := Lib.hid CO2
            clear HCO CO2
            go_wp2_with (first
              | ((refine wpList_arith rfl rfl (by rfl) rfl rfl ?_; intro b1 n1 H1); obtain rfl := fl_some (H1.out.trans HC2.out))
              | (at_builtin; refine wpList_append_own _ rfl _ _ 137 rfl w.heap.size 25 i0 (.float .f64 0) 1 8 Tryd.underlying137 HI.out HZ0.out HZ1.out HZ2.out rfl (by decide) _ _ _ rfl ((owns_drew HO.out _).alloc _) ⟨wo.heap.size, 0, none⟩ 1 1 [.float .f64 (coN odd (k + 1))] rfl rfl (one_new _ _ _) (one_cell _) C3.out C4.out (C5 _ _).out ?_))
            intro v' w1 hown' hg _
            have hown2 : w1.ownsRow w.heap.size 25 1 v' (k + 1) (coefs odd (k + 1)) := by rw [← coefs_succ]; exact hown'
            have hb1 : Below w.heap.size w w1 := grown_below (grow_alloc (grow_drewN HB.out _) _) hg (fun j hj => (HO.out.lt j hj).1)
            have HO2 := Lib.hid hown2
            have HB2 := Lib.hid hb1
            clear hown' hown2 hb1 hg HO HB H1 HC2 HM HM3 d8
            go_wp2
            go_roundw
            case rel => exact ⟨k + 1, by omega, by go_num, HO2.out, HB2.out⟩
            case measure => simp [intOf]; omega
    · obtain rfl : k = 8 := by omega
      have hown := HO.out
      obtain ⟨hl, ⟨hv, hn⟩ | ⟨g, cap, cur, rfl, hg1, hg2, hg3, hg4, hg5, hg6⟩⟩ := hown
      · omega
      have hcell : ∀ j, j < 8 → wo.cell? ⟨g, j, none⟩ = some (.float .f64 (coN odd (j + 1))) := fun j hj => by
        have := HO.out.cells (g := g) rfl j _ (coefs_at odd 8 j hj)
        have e : (⟨g, 0, none⟩ : Addr).add j = ⟨g, j, none⟩ := by cases j with
          | zero => rfl
          | succ j => simp [Addr.add]
        rw [← e]; exact this
      have c0 := hcell 0 (by omega)
      have c1 := hcell 1 (by omega)
      have c2 := hcell 2 (by omega)
      have c3 := hcell 3 (by omega)
      have c4 := hcell 4 (by omega)
      have c5 := hcell 5 (by omega)
      have c6 := hcell 6 (by omega)
      have c7 := hcell 7 (by omega)
      clear hl hg2 hg4 hg5 hg6 hcell
      go_wp2
      refine wp_loop_rounds 8 ?_
      repeat (rw [rounds_succ]; go_wp2_with ((refine wpList_arith rfl rfl (by rfl) rfl rfl ?_; intro b1 n1 H1)))
      have e : (List.range 8).map (fun j => coN odd (j + 1)) = [coN odd 1, coN odd 2, coN odd 3, coN odd 4, coN odd 5, coN odd 6, coN odd 7, coN odd 8] := rfl
      go_ret
      refine Post.mk ⟨_, rfl, ?_⟩ ?_
      · rw [e]
        simp only [Hid, fop] at *
        simp only [ser, hor, *]
      · exact grow_drewN HB.out _
theorem seriesOdd_walk (p : Nat) (w : World) : Calls Tryd.prog 73 #[.float .f64 p, .int .i64 1] w (Post (IsF (ser oddC (fl p))) w) := by
  have h := series_walk p 1 (by omega) w
  rw [coN_odd] at h
  exact h
theorem seriesEven_walk (p : Nat) (w : World) : Calls Tryd.prog 73 #[.float .f64 p, .int .i64 0] w (Post (IsF (ser evenC (fl p))) w) := by
  have h := series_walk p 0 (by omega) w
  rw [coN_even] at h
  exact h
/-- The document's sine and cosine. -/
def IsSC (a : Int) (v : Value) : Prop := ∃ b1 b2, v = .tuple #[.float .f64 b1, .float .f64 b2] ∧ fl b1 = sinA a ∧ fl b2 = cosA a
set_option maxRecDepth 100000 in
set_option maxHeartbeats 1000000 in
theorem sc_0 (a r : Int) (hr : nrm a = r) (b1 : 0 ≤ r) (b2 : r < 162000000000) (hq : qrt a = 0) (w : World) : Calls Tryd.prog 59 #[.int .i64 a] w (Post (IsSC a) w) := by
  have NW := Lib.hid (normOf_walk a w)
  rw [hr] at NW
  have hx : xr a = fmul (ofI (r)) (fl 4437543736006956352) := by unfold xr rst; rw [hr, hq]; congr 2 <;> omega
  have HX := Lib.hid hx
  have HQ := Lib.hid hq
  clear hx hq hr
  have d0 : decide (162000000000 < r) = false := decide_eq_false (by omega)
  have e0 : (r == 162000000000) = false := by simp; omega
  go_enter Tryd.func59, Tryd.ntmps59
  go_wp2_with (go_at_call 72; (with_reducible refine NW.out.mono ?_); rintro e w1 ⟨rfl, rfl⟩)
  refine wp_loop_rounds 1 ?_
  rw [rounds_succ]
  have s0 := trivial
  go_wp2_with (first
      | (refine wpList_arith rfl rfl (by rfl) rfl rfl ?_; intro b1 n1 H1)
      | (clear s0; go_at_call 73; refine (seriesOdd_walk _ _).mono ?_; rintro e w2 ⟨v, rfl, ⟨b3, rfl, g3⟩, hB⟩; have G3 := Lib.hid g3; have HB := Lib.hid hB; clear g3 hB; have s1 := trivial)
      | (clear s1; go_at_call 73; refine (seriesEven_walk _ _).mono ?_; rintro e w3 ⟨v, rfl, ⟨b4, rfl, g4⟩, hB⟩; have G4 := Lib.hid g4; have HB2 := Lib.hid hB; clear g4 hB))
  go_ret2
  refine Post.mk ⟨_, _, rfl, ?_, ?_⟩ ?_
  · simp only [Hid, fop, ofI] at *
    simp [sinA, quad, sn, cs, fl_neg, *]
  · simp only [Hid, fop, ofI] at *
    simp [cosA, quad, sn, cs, fl_neg, *]
  · (repeat (with_reducible first
        | exact Grow.grow_refl _
        | refine Grow.grow_setCell ?_ ?_ _
        | refine Grow.grow_alloc ?_ _
        | refine Grow.grow_drewN ?_ _
        | refine Grow.grow_over ?_ _
        | refine Grow.grow_via (by assumption) ?_)) <;> omega
set_option maxRecDepth 100000 in
set_option maxHeartbeats 1000000 in
theorem sc_1 (a r : Int) (hr : nrm a = r) (b1 : 162000000000 < r) (b2 : r < 486000000000) (hq : qrt a = 1) (w : World) : Calls Tryd.prog 59 #[.int .i64 a] w (Post (IsSC a) w) := by
  have NW := Lib.hid (normOf_walk a w)
  rw [hr] at NW
  have hx : xr a = fmul (ofI (r - 324000000000)) (fl 4437543736006956352) := by unfold xr rst; rw [hr, hq]; congr 2 <;> omega
  have HX := Lib.hid hx
  have HQ := Lib.hid hq
  clear hx hq hr
  have d0 : decide (162000000000 < r) = true := decide_eq_true (by omega)
  have d1 : decide (162000000000 < r - 324000000000) = false := decide_eq_false (by omega)
  have e1 : (r - 324000000000 == 162000000000) = false := by simp; omega
  go_enter Tryd.func59, Tryd.ntmps59
  go_wp2_with (go_at_call 72; (with_reducible refine NW.out.mono ?_); rintro e w1 ⟨rfl, rfl⟩)
  refine wp_loop_rounds 2 ?_
  rw [rounds_succ]
  go_wp2
  rw [rounds_succ]
  have s0 := trivial
  go_wp2_with (first
      | (refine wpList_arith rfl rfl (by rfl) rfl rfl ?_; intro b1 n1 H1)
      | (clear s0; go_at_call 73; refine (seriesOdd_walk _ _).mono ?_; rintro e w2 ⟨v, rfl, ⟨b3, rfl, g3⟩, hB⟩; have G3 := Lib.hid g3; have HB := Lib.hid hB; clear g3 hB; have s1 := trivial)
      | (clear s1; go_at_call 73; refine (seriesEven_walk _ _).mono ?_; rintro e w3 ⟨v, rfl, ⟨b4, rfl, g4⟩, hB⟩; have G4 := Lib.hid g4; have HB2 := Lib.hid hB; clear g4 hB))
  go_ret2
  refine Post.mk ⟨_, _, rfl, ?_, ?_⟩ ?_
  · simp only [Hid, fop, ofI] at *
    simp [sinA, quad, sn, cs, fl_neg, *]
  · simp only [Hid, fop, ofI] at *
    simp [cosA, quad, sn, cs, fl_neg, *]
  · (repeat (with_reducible first
        | exact Grow.grow_refl _
        | refine Grow.grow_setCell ?_ ?_ _
        | refine Grow.grow_alloc ?_ _
        | refine Grow.grow_drewN ?_ _
        | refine Grow.grow_over ?_ _
        | refine Grow.grow_via (by assumption) ?_)) <;> omega
set_option maxRecDepth 100000 in
set_option maxHeartbeats 1000000 in
theorem sc_1e (a r : Int) (hr : nrm a = r) (b1 : 162000000000 ≤ r) (b2 : r ≤ 162000000000) (hq : qrt a = 1) (w : World) : Calls Tryd.prog 59 #[.int .i64 a] w (Post (IsSC a) w) := by
  have NW := Lib.hid (normOf_walk a w)
  rw [hr] at NW
  have hx : xr a = fmul (ofI (r - 324000000000)) (fl 4437543736006956352) := by unfold xr rst; rw [hr, hq]; congr 2 <;> omega
  have HX := Lib.hid hx
  have HQ := Lib.hid hq
  clear hx hq hr
  have d0 : decide (162000000000 < r) = false := decide_eq_false (by omega)
  have e0 : (r == 162000000000) = true := by simp; omega
  have d1 : decide (162000000000 < r - 324000000000) = false := decide_eq_false (by omega)
  have e1 : (r - 324000000000 == 162000000000) = false := by simp; omega
  go_enter Tryd.func59, Tryd.ntmps59
  go_wp2_with (go_at_call 72; (with_reducible refine NW.out.mono ?_); rintro e w1 ⟨rfl, rfl⟩)
  refine wp_loop_rounds 2 ?_
  rw [rounds_succ]
  go_wp2
  rw [rounds_succ]
  have s0 := trivial
  go_wp2_with (first
      | (refine wpList_arith rfl rfl (by rfl) rfl rfl ?_; intro b1 n1 H1)
      | (clear s0; go_at_call 73; refine (seriesOdd_walk _ _).mono ?_; rintro e w2 ⟨v, rfl, ⟨b3, rfl, g3⟩, hB⟩; have G3 := Lib.hid g3; have HB := Lib.hid hB; clear g3 hB; have s1 := trivial)
      | (clear s1; go_at_call 73; refine (seriesEven_walk _ _).mono ?_; rintro e w3 ⟨v, rfl, ⟨b4, rfl, g4⟩, hB⟩; have G4 := Lib.hid g4; have HB2 := Lib.hid hB; clear g4 hB))
  go_ret2
  refine Post.mk ⟨_, _, rfl, ?_, ?_⟩ ?_
  · simp only [Hid, fop, ofI] at *
    simp [sinA, quad, sn, cs, fl_neg, *]
  · simp only [Hid, fop, ofI] at *
    simp [cosA, quad, sn, cs, fl_neg, *]
  · (repeat (with_reducible first
        | exact Grow.grow_refl _
        | refine Grow.grow_setCell ?_ ?_ _
        | refine Grow.grow_alloc ?_ _
        | refine Grow.grow_drewN ?_ _
        | refine Grow.grow_over ?_ _
        | refine Grow.grow_via (by assumption) ?_)) <;> omega
set_option maxRecDepth 100000 in
set_option maxHeartbeats 1000000 in
theorem sc_2 (a r : Int) (hr : nrm a = r) (b1 : 486000000000 < r) (b2 : r < 810000000000) (hq : qrt a = 2) (w : World) : Calls Tryd.prog 59 #[.int .i64 a] w (Post (IsSC a) w) := by
  have NW := Lib.hid (normOf_walk a w)
  rw [hr] at NW
  have hx : xr a = fmul (ofI (r - 324000000000 - 324000000000)) (fl 4437543736006956352) := by unfold xr rst; rw [hr, hq]; congr 2 <;> omega
  have HX := Lib.hid hx
  have HQ := Lib.hid hq
  clear hx hq hr
  have d0 : decide (162000000000 < r) = true := decide_eq_true (by omega)
  have d1 : decide (162000000000 < r - 324000000000) = true := decide_eq_true (by omega)
  have d2 : decide (162000000000 < r - 324000000000 - 324000000000) = false := decide_eq_false (by omega)
  have e2 : (r - 324000000000 - 324000000000 == 162000000000) = false := by simp; omega
  go_enter Tryd.func59, Tryd.ntmps59
  go_wp2_with (go_at_call 72; (with_reducible refine NW.out.mono ?_); rintro e w1 ⟨rfl, rfl⟩)
  refine wp_loop_rounds 3 ?_
  rw [rounds_succ]
  go_wp2
  rw [rounds_succ]
  go_wp2
  rw [rounds_succ]
  have s0 := trivial
  go_wp2_with (first
      | (refine wpList_arith rfl rfl (by rfl) rfl rfl ?_; intro b1 n1 H1)
      | (clear s0; go_at_call 73; refine (seriesOdd_walk _ _).mono ?_; rintro e w2 ⟨v, rfl, ⟨b3, rfl, g3⟩, hB⟩; have G3 := Lib.hid g3; have HB := Lib.hid hB; clear g3 hB; have s1 := trivial)
      | (clear s1; go_at_call 73; refine (seriesEven_walk _ _).mono ?_; rintro e w3 ⟨v, rfl, ⟨b4, rfl, g4⟩, hB⟩; have G4 := Lib.hid g4; have HB2 := Lib.hid hB; clear g4 hB))
  go_ret2
  refine Post.mk ⟨_, _, rfl, ?_, ?_⟩ ?_
  · simp only [Hid, fop, ofI] at *
    simp [sinA, quad, sn, cs, fl_neg, *]
  · simp only [Hid, fop, ofI] at *
    simp [cosA, quad, sn, cs, fl_neg, *]
  · (repeat (with_reducible first
        | exact Grow.grow_refl _
        | refine Grow.grow_setCell ?_ ?_ _
        | refine Grow.grow_alloc ?_ _
        | refine Grow.grow_drewN ?_ _
        | refine Grow.grow_over ?_ _
        | refine Grow.grow_via (by assumption) ?_)) <;> omega
set_option maxRecDepth 100000 in
set_option maxHeartbeats 1000000 in
theorem sc_2e (a r : Int) (hr : nrm a = r) (b1 : 486000000000 ≤ r) (b2 : r ≤ 486000000000) (hq : qrt a = 2) (w : World) : Calls Tryd.prog 59 #[.int .i64 a] w (Post (IsSC a) w) := by
  have NW := Lib.hid (normOf_walk a w)
  rw [hr] at NW
  have hx : xr a = fmul (ofI (r - 324000000000 - 324000000000)) (fl 4437543736006956352) := by unfold xr rst; rw [hr, hq]; congr 2 <;> omega
  have HX := Lib.hid hx
  have HQ := Lib.hid hq
  clear hx hq hr
  have d0 : decide (162000000000 < r) = true := decide_eq_true (by omega)
  have d1 : decide (162000000000 < r - 324000000000) = false := decide_eq_false (by omega)
  have e1 : (r - 324000000000 == 162000000000) = true := by simp; omega
  have d2 : decide (162000000000 < r - 324000000000 - 324000000000) = false := decide_eq_false (by omega)
  have e2 : (r - 324000000000 - 324000000000 == 162000000000) = false := by simp; omega
  go_enter Tryd.func59, Tryd.ntmps59
  go_wp2_with (go_at_call 72; (with_reducible refine NW.out.mono ?_); rintro e w1 ⟨rfl, rfl⟩)
  refine wp_loop_rounds 3 ?_
  rw [rounds_succ]
  go_wp2
  rw [rounds_succ]
  go_wp2
  rw [rounds_succ]
  have s0 := trivial
  go_wp2_with (first
      | (refine wpList_arith rfl rfl (by rfl) rfl rfl ?_; intro b1 n1 H1)
      | (clear s0; go_at_call 73; refine (seriesOdd_walk _ _).mono ?_; rintro e w2 ⟨v, rfl, ⟨b3, rfl, g3⟩, hB⟩; have G3 := Lib.hid g3; have HB := Lib.hid hB; clear g3 hB; have s1 := trivial)
      | (clear s1; go_at_call 73; refine (seriesEven_walk _ _).mono ?_; rintro e w3 ⟨v, rfl, ⟨b4, rfl, g4⟩, hB⟩; have G4 := Lib.hid g4; have HB2 := Lib.hid hB; clear g4 hB))
  go_ret2
  refine Post.mk ⟨_, _, rfl, ?_, ?_⟩ ?_
  · simp only [Hid, fop, ofI] at *
    simp [sinA, quad, sn, cs, fl_neg, *]
  · simp only [Hid, fop, ofI] at *
    simp [cosA, quad, sn, cs, fl_neg, *]
  · (repeat (with_reducible first
        | exact Grow.grow_refl _
        | refine Grow.grow_setCell ?_ ?_ _
        | refine Grow.grow_alloc ?_ _
        | refine Grow.grow_drewN ?_ _
        | refine Grow.grow_over ?_ _
        | refine Grow.grow_via (by assumption) ?_)) <;> omega
set_option maxRecDepth 100000 in
set_option maxHeartbeats 1000000 in
theorem sc_3 (a r : Int) (hr : nrm a = r) (b1 : 810000000000 < r) (b2 : r < 1134000000000) (hq : qrt a = 3) (w : World) : Calls Tryd.prog 59 #[.int .i64 a] w (Post (IsSC a) w) := by
  have NW := Lib.hid (normOf_walk a w)
  rw [hr] at NW
  have hx : xr a = fmul (ofI (r - 324000000000 - 324000000000 - 324000000000)) (fl 4437543736006956352) := by unfold xr rst; rw [hr, hq]; congr 2 <;> omega
  have HX := Lib.hid hx
  have HQ := Lib.hid hq
  clear hx hq hr
  have d0 : decide (162000000000 < r) = true := decide_eq_true (by omega)
  have d1 : decide (162000000000 < r - 324000000000) = true := decide_eq_true (by omega)
  have d2 : decide (162000000000 < r - 324000000000 - 324000000000) = true := decide_eq_true (by omega)
  have d3 : decide (162000000000 < r - 324000000000 - 324000000000 - 324000000000) = false := decide_eq_false (by omega)
  have e3 : (r - 324000000000 - 324000000000 - 324000000000 == 162000000000) = false := by simp; omega
  go_enter Tryd.func59, Tryd.ntmps59
  go_wp2_with (go_at_call 72; (with_reducible refine NW.out.mono ?_); rintro e w1 ⟨rfl, rfl⟩)
  refine wp_loop_rounds 4 ?_
  rw [rounds_succ]
  go_wp2
  rw [rounds_succ]
  go_wp2
  rw [rounds_succ]
  go_wp2
  rw [rounds_succ]
  have s0 := trivial
  go_wp2_with (first
      | (refine wpList_arith rfl rfl (by rfl) rfl rfl ?_; intro b1 n1 H1)
      | (clear s0; go_at_call 73; refine (seriesOdd_walk _ _).mono ?_; rintro e w2 ⟨v, rfl, ⟨b3, rfl, g3⟩, hB⟩; have G3 := Lib.hid g3; have HB := Lib.hid hB; clear g3 hB; have s1 := trivial)
      | (clear s1; go_at_call 73; refine (seriesEven_walk _ _).mono ?_; rintro e w3 ⟨v, rfl, ⟨b4, rfl, g4⟩, hB⟩; have G4 := Lib.hid g4; have HB2 := Lib.hid hB; clear g4 hB))
  go_ret2
  refine Post.mk ⟨_, _, rfl, ?_, ?_⟩ ?_
  · simp only [Hid, fop, ofI] at *
    simp [sinA, quad, sn, cs, fl_neg, *]
  · simp only [Hid, fop, ofI] at *
    simp [cosA, quad, sn, cs, fl_neg, *]
  · (repeat (with_reducible first
        | exact Grow.grow_refl _
        | refine Grow.grow_setCell ?_ ?_ _
        | refine Grow.grow_alloc ?_ _
        | refine Grow.grow_drewN ?_ _
        | refine Grow.grow_over ?_ _
        | refine Grow.grow_via (by assumption) ?_)) <;> omega
set_option maxRecDepth 100000 in
set_option maxHeartbeats 1000000 in
theorem sc_3e (a r : Int) (hr : nrm a = r) (b1 : 810000000000 ≤ r) (b2 : r ≤ 810000000000) (hq : qrt a = 3) (w : World) : Calls Tryd.prog 59 #[.int .i64 a] w (Post (IsSC a) w) := by
  have NW := Lib.hid (normOf_walk a w)
  rw [hr] at NW
  have hx : xr a = fmul (ofI (r - 324000000000 - 324000000000 - 324000000000)) (fl 4437543736006956352) := by unfold xr rst; rw [hr, hq]; congr 2 <;> omega
  have HX := Lib.hid hx
  have HQ := Lib.hid hq
  clear hx hq hr
  have d0 : decide (162000000000 < r) = true := decide_eq_true (by omega)
  have d1 : decide (162000000000 < r - 324000000000) = true := decide_eq_true (by omega)
  have d2 : decide (162000000000 < r - 324000000000 - 324000000000) = false := decide_eq_false (by omega)
  have e2 : (r - 324000000000 - 324000000000 == 162000000000) = true := by simp; omega
  have d3 : decide (162000000000 < r - 324000000000 - 324000000000 - 324000000000) = false := decide_eq_false (by omega)
  have e3 : (r - 324000000000 - 324000000000 - 324000000000 == 162000000000) = false := by simp; omega
  go_enter Tryd.func59, Tryd.ntmps59
  go_wp2_with (go_at_call 72; (with_reducible refine NW.out.mono ?_); rintro e w1 ⟨rfl, rfl⟩)
  refine wp_loop_rounds 4 ?_
  rw [rounds_succ]
  go_wp2
  rw [rounds_succ]
  go_wp2
  rw [rounds_succ]
  go_wp2
  rw [rounds_succ]
  have s0 := trivial
  go_wp2_with (first
      | (refine wpList_arith rfl rfl (by rfl) rfl rfl ?_; intro b1 n1 H1)
      | (clear s0; go_at_call 73; refine (seriesOdd_walk _ _).mono ?_; rintro e w2 ⟨v, rfl, ⟨b3, rfl, g3⟩, hB⟩; have G3 := Lib.hid g3; have HB := Lib.hid hB; clear g3 hB; have s1 := trivial)
      | (clear s1; go_at_call 73; refine (seriesEven_walk _ _).mono ?_; rintro e w3 ⟨v, rfl, ⟨b4, rfl, g4⟩, hB⟩; have G4 := Lib.hid g4; have HB2 := Lib.hid hB; clear g4 hB))
  go_ret2
  refine Post.mk ⟨_, _, rfl, ?_, ?_⟩ ?_
  · simp only [Hid, fop, ofI] at *
    simp [sinA, quad, sn, cs, fl_neg, *]
  · simp only [Hid, fop, ofI] at *
    simp [cosA, quad, sn, cs, fl_neg, *]
  · (repeat (with_reducible first
        | exact Grow.grow_refl _
        | refine Grow.grow_setCell ?_ ?_ _
        | refine Grow.grow_alloc ?_ _
        | refine Grow.grow_drewN ?_ _
        | refine Grow.grow_over ?_ _
        | refine Grow.grow_via (by assumption) ?_)) <;> omega
set_option maxRecDepth 100000 in
set_option maxHeartbeats 1000000 in
theorem sc_4 (a r : Int) (hr : nrm a = r) (b1 : 1134000000000 < r) (b2 : r < 1458000000000) (hq : qrt a = 4) (w : World) : Calls Tryd.prog 59 #[.int .i64 a] w (Post (IsSC a) w) := by
  have NW := Lib.hid (normOf_walk a w)
  rw [hr] at NW
  have hx : xr a = fmul (ofI (r - 324000000000 - 324000000000 - 324000000000 - 324000000000)) (fl 4437543736006956352) := by unfold xr rst; rw [hr, hq]; congr 2 <;> omega
  have HX := Lib.hid hx
  have HQ := Lib.hid hq
  clear hx hq hr
  have d0 : decide (162000000000 < r) = true := decide_eq_true (by omega)
  have d1 : decide (162000000000 < r - 324000000000) = true := decide_eq_true (by omega)
  have d2 : decide (162000000000 < r - 324000000000 - 324000000000) = true := decide_eq_true (by omega)
  have d3 : decide (162000000000 < r - 324000000000 - 324000000000 - 324000000000) = true := decide_eq_true (by omega)
  have d4 : decide (162000000000 < r - 324000000000 - 324000000000 - 324000000000 - 324000000000) = false := decide_eq_false (by omega)
  have e4 : (r - 324000000000 - 324000000000 - 324000000000 - 324000000000 == 162000000000) = false := by simp; omega
  go_enter Tryd.func59, Tryd.ntmps59
  go_wp2_with (go_at_call 72; (with_reducible refine NW.out.mono ?_); rintro e w1 ⟨rfl, rfl⟩)
  refine wp_loop_rounds 5 ?_
  rw [rounds_succ]
  go_wp2
  rw [rounds_succ]
  go_wp2
  rw [rounds_succ]
  go_wp2
  rw [rounds_succ]
  go_wp2
  rw [rounds_succ]
  have s0 := trivial
  go_wp2_with (first
      | (refine wpList_arith rfl rfl (by rfl) rfl rfl ?_; intro b1 n1 H1)
      | (clear s0; go_at_call 73; refine (seriesOdd_walk _ _).mono ?_; rintro e w2 ⟨v, rfl, ⟨b3, rfl, g3⟩, hB⟩; have G3 := Lib.hid g3; have HB := Lib.hid hB; clear g3 hB; have s1 := trivial)
      | (clear s1; go_at_call 73; refine (seriesEven_walk _ _).mono ?_; rintro e w3 ⟨v, rfl, ⟨b4, rfl, g4⟩, hB⟩; have G4 := Lib.hid g4; have HB2 := Lib.hid hB; clear g4 hB))
  go_ret2
  refine Post.mk ⟨_, _, rfl, ?_, ?_⟩ ?_
  · simp only [Hid, fop, ofI] at *
    simp [sinA, quad, sn, cs, fl_neg, *]
  · simp only [Hid, fop, ofI] at *
    simp [cosA, quad, sn, cs, fl_neg, *]
  · (repeat (with_reducible first
        | exact Grow.grow_refl _
        | refine Grow.grow_setCell ?_ ?_ _
        | refine Grow.grow_alloc ?_ _
        | refine Grow.grow_drewN ?_ _
        | refine Grow.grow_over ?_ _
        | refine Grow.grow_via (by assumption) ?_)) <;> omega
set_option maxRecDepth 100000 in
set_option maxHeartbeats 1000000 in
theorem sc_4e (a r : Int) (hr : nrm a = r) (b1 : 1134000000000 ≤ r) (b2 : r ≤ 1134000000000) (hq : qrt a = 4) (w : World) : Calls Tryd.prog 59 #[.int .i64 a] w (Post (IsSC a) w) := by
  have NW := Lib.hid (normOf_walk a w)
  rw [hr] at NW
  have hx : xr a = fmul (ofI (r - 324000000000 - 324000000000 - 324000000000 - 324000000000)) (fl 4437543736006956352) := by unfold xr rst; rw [hr, hq]; congr 2 <;> omega
  have HX := Lib.hid hx
  have HQ := Lib.hid hq
  clear hx hq hr
  have d0 : decide (162000000000 < r) = true := decide_eq_true (by omega)
  have d1 : decide (162000000000 < r - 324000000000) = true := decide_eq_true (by omega)
  have d2 : decide (162000000000 < r - 324000000000 - 324000000000) = true := decide_eq_true (by omega)
  have d3 : decide (162000000000 < r - 324000000000 - 324000000000 - 324000000000) = false := decide_eq_false (by omega)
  have e3 : (r - 324000000000 - 324000000000 - 324000000000 == 162000000000) = true := by simp; omega
  have d4 : decide (162000000000 < r - 324000000000 - 324000000000 - 324000000000 - 324000000000) = false := decide_eq_false (by omega)
  have e4 : (r - 324000000000 - 324000000000 - 324000000000 - 324000000000 == 162000000000) = false := by simp; omega
  go_enter Tryd.func59, Tryd.ntmps59
  go_wp2_with (go_at_call 72; (with_reducible refine NW.out.mono ?_); rintro e w1 ⟨rfl, rfl⟩)
  refine wp_loop_rounds 5 ?_
  rw [rounds_succ]
  go_wp2
  rw [rounds_succ]
  go_wp2
  rw [rounds_succ]
  go_wp2
  rw [rounds_succ]
  go_wp2
  rw [rounds_succ]
  have s0 := trivial
  go_wp2_with (first
      | (refine wpList_arith rfl rfl (by rfl) rfl rfl ?_; intro b1 n1 H1)
      | (clear s0; go_at_call 73; refine (seriesOdd_walk _ _).mono ?_; rintro e w2 ⟨v, rfl, ⟨b3, rfl, g3⟩, hB⟩; have G3 := Lib.hid g3; have HB := Lib.hid hB; clear g3 hB; have s1 := trivial)
      | (clear s1; go_at_call 73; refine (seriesEven_walk _ _).mono ?_; rintro e w3 ⟨v, rfl, ⟨b4, rfl, g4⟩, hB⟩; have G4 := Lib.hid g4; have HB2 := Lib.hid hB; clear g4 hB))
  go_ret2
  refine Post.mk ⟨_, _, rfl, ?_, ?_⟩ ?_
  · simp only [Hid, fop, ofI] at *
    simp [sinA, quad, sn, cs, fl_neg, *]
  · simp only [Hid, fop, ofI] at *
    simp [cosA, quad, sn, cs, fl_neg, *]
  · (repeat (with_reducible first
        | exact Grow.grow_refl _
        | refine Grow.grow_setCell ?_ ?_ _
        | refine Grow.grow_alloc ?_ _
        | refine Grow.grow_drewN ?_ _
        | refine Grow.grow_over ?_ _
        | refine Grow.grow_via (by assumption) ?_)) <;> omega
theorem sinCos_walk (a : Int) (w : World) : Calls Tryd.prog 59 #[.int .i64 a] w (Post (IsSC a) w) := by
  obtain ⟨t1, t2⟩ := nrm_in a
  have hq : qrt a = (nrm a + 162000000000) / 324000000000 := rfl
  have q1 := qrt_lo a
  have q2 := qrt_hi a
  obtain ⟨r, hr⟩ : ∃ r, nrm a = r := ⟨_, rfl⟩
  rw [hr] at t1 t2 hq
  have key : qrt a = 0 ∨ qrt a = 1 ∨ qrt a = 2 ∨ qrt a = 3 ∨ qrt a = 4 := by omega
  rcases key with h | h | h | h | h
  · exact sc_0 a r hr (by omega) (by omega) h w
  · by_cases g : r = 162000000000
    · exact sc_1e a r hr (by omega) (by omega) h w
    · exact sc_1 a r hr (by omega) (by omega) h w
  · by_cases g : r = 486000000000
    · exact sc_2e a r hr (by omega) (by omega) h w
    · exact sc_2 a r hr (by omega) (by omega) h w
  · by_cases g : r = 810000000000
    · exact sc_3e a r hr (by omega) (by omega) h w
    · exact sc_3 a r hr (by omega) (by omega) h w
  · by_cases g : r = 1134000000000
    · exact sc_4e a r hr (by omega) (by omega) h w
    · exact sc_4 a r hr (by omega) (by omega) h w
end Go.Proofs.YtaakbajhbmbhcaaDoor
