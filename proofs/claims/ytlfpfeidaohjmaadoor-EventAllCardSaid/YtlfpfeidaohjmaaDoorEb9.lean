/- The program's tracks: whether one is right. -/
import Derived.Test.YtlfpfeidaohjmaaDoorEb8
import Derived.Test.YtlfpfeidaohjmaaDoorEb6
import Derived.Test.YtlfpfeidaohjmaaDoorRn
set_option linter.unusedSimpArgs false
set_option linter.unusedVariables false
namespace Go.Proofs.YtlfpfeidaohjmaaDoor
open Go.RowKit Go.Grow Go.Fl

def SpecV (l : Int) : FuncId → Array Value → Value → Prop
  | 110, #[.int .i64 t], v => v = .bool (goodT t)
  | 107, _, v => v = .int .i64 l
  | _, _, _ => False
theorem over_lt {S n : Int} (hn : 0 < n) (h : 600000000000000000 / n < S) : 600000000000000000 < n * S := by
  rw [Int.mul_comm]
  exact (Int.ediv_lt_iff_lt_mul hn).1 h
theorem over_ge {S n : Int} (hn : 0 < n) (h : ¬ 600000000000000000 / n < S) : n * S ≤ 600000000000000000 := by
  rw [Int.mul_comm]
  exact Int.not_lt.1 fun h2 => h ((Int.ediv_lt_iff_lt_mul hn).2 h2)
def VPost (a : Nat → Addr) (k : Nat) (w : World) (e : Ending) (w' : World) : Prop := e = .returned (errV a k) ∧ Below w.heap.size w w'
set_option maxRecDepth 100000 in
set_option maxHeartbeats 16000000 in
theorem valid_few (a : Nat → Addr) (F S : Int) (r : Option Addr) (L : List Int) (c : Nat) (w : World) (hs : Sen a [2, 3, 5] w) (hl : L.length ≤ 9223372036854775807) (q : L.length < 2) :
    Calls Tryd.prog 65 #[trk F S r L.length c] w (VPost a 2 w) := by
  have n1 : (L.length : Int) < 2 := by omega
  have c2 := (hs 2 (by decide)).1
  simp only [gOf] at c2
  have hlt2 := lt_of_cellS c2
  have hne2 : ¬ (w.heap.size = 0) := by simp only at hlt2; omega
  have hu := errV_pos a (show 2 ≠ 0 by decide)
  unfold VPost trk
  rw [hu]
  clear hs hu
  have G := Lib.hid (grow_refl w)
  go_enter Tryd.func65, Tryd.ntmps65
  go_wp2
  go_ret
  exact ⟨rfl, by first | exact G.out | (repeat (with_reducible first | exact grow_refl _ | exact G.out | refine Grow.grow_drewN ?_ _ | refine Grow.grow_drew ?_ | refine Grow.grow_alloc ?_ _))⟩
set_option maxRecDepth 100000 in
set_option maxHeartbeats 16000000 in
theorem valid_many (a : Nat → Addr) (F S : Int) (r : Option Addr) (L : List Int) (c : Nat) (w : World) (hs : Sen a [2, 3, 5] w) (hl : L.length ≤ 9223372036854775807) (q : 4000 < L.length) :
    Calls Tryd.prog 65 #[trk F S r L.length c] w (VPost a 2 w) := by
  have n1 : ¬ (L.length : Int) < 2 := by omega
  have n2 : (4000 : Int) < L.length := by omega
  have c2 := (hs 2 (by decide)).1
  simp only [gOf] at c2
  have hlt2 := lt_of_cellS c2
  have hne2 : ¬ (w.heap.size = 0) := by simp only at hlt2; omega
  have hu := errV_pos a (show 2 ≠ 0 by decide)
  unfold VPost trk
  rw [hu]
  clear hs hu
  have G := Lib.hid (grow_refl w)
  go_enter Tryd.func65, Tryd.ntmps65
  go_wp2
  go_ret
  exact ⟨rfl, by first | exact G.out | (repeat (with_reducible first | exact grow_refl _ | exact G.out | refine Grow.grow_drewN ?_ _ | refine Grow.grow_drew ?_ | refine Grow.grow_alloc ?_ _))⟩
theorem time_cell {w X : World} {v : Value} {g : Nat} {o : Obj} (h : w.cell? ⟨g, 0, none⟩ = some v) (hb : Below (w.alloc o).heap.size (w.alloc o) X) : X.cell? ⟨g, 0, none⟩ = some v ∧ g < X.heap.size := by
  have hl := lt_of_cellS h
  have h2 : (w.alloc o).cell? ⟨g, 0, none⟩ = some v := ((grow_alloc (grow_refl w) o).cell (p := ⟨g, 0, none⟩) hl).trans h
  have hl2 := lt_of_cellS h2
  exact ⟨(hb.cell (p := ⟨g, 0, none⟩) hl2).trans h2, Nat.lt_of_lt_of_le hl2 hb.size⟩
set_option maxRecDepth 100000 in
set_option maxHeartbeats 16000000 in
theorem valid_step (a : Nat → Addr) (F S : Int) (r : Option Addr) (L : List Int) (c : Nat) (w : World) (hs : Sen a [2, 3, 5] w) (hl : L.length ≤ 9223372036854775807) (q1 : 2 ≤ L.length) (q2 : L.length ≤ 4000) (q3 : S < 1) :
    Calls Tryd.prog 65 #[trk F S r L.length c] w (VPost a 3 w) := by
  have d1 : decide (S < 1) = true := decide_eq_true q3
  have n1 : ¬ (L.length : Int) < 2 := by omega
  have n2 : ¬ (4000 : Int) < L.length := by omega
  have n0 : ¬ ((L.length : Int) - 1 = 0) := by omega
  have c3 := (hs 3 (by decide)).1
  simp only [gOf] at c3
  have hlt3 := lt_of_cellS c3
  have hne3 : ¬ (w.heap.size = 5) := by simp only at hlt3; omega
  have hu := errV_pos a (show 3 ≠ 0 by decide)
  unfold VPost trk
  rw [hu]
  clear hs hu
  obtain ⟨x0, x1⟩ : True ∧ True := ⟨trivial, trivial⟩
  have C3 := Lib.hid c3
  go_enter Tryd.func65, Tryd.ntmps65
  go_wp2
  refine Rel.wp_region_rel (SpecV 0) (by rfl) (Grow.lexB_of_fast (by kernel_rfl) (by kernel_rfl)) ?_
  repeat (first
    | (refine rel_plain (by rfl) rfl ?_; intro K hK; go_big_quiet_op; go_big_quiet_on)
    | (refine rel_len (by rfl) rfl rfl Tryd.underlying82 ?_; simp only [Act.put, List.setIfInBounds_toArray, List.set_cons_zero, List.set_cons_succ])
    | (refine rel_skip (by rfl) ?_; simp only [Act.put, List.setIfInBounds_toArray, List.set_cons_zero, List.set_cons_succ]))
  refine Rel.wpRel_nil ?_
  intro w9 hB9 hG9
  clear hG9
  obtain ⟨d3, dl3⟩ := time_cell C3.out hB9
  have G := Lib.hid (grow_trans (grow_alloc (grow_refl w) _) hB9)
  clear c3
  go_wp2
  go_ret
  exact ⟨rfl, by first | exact G.out | (repeat (with_reducible first | exact grow_refl _ | exact G.out | refine Grow.grow_drewN ?_ _ | refine Grow.grow_drew ?_ | refine Grow.grow_alloc ?_ _))⟩
set_option maxRecDepth 100000 in
set_option maxHeartbeats 16000000 in
theorem valid_from (a : Nat → Addr) (F S : Int) (r : Option Addr) (L : List Int) (c : Nat) (w : World) (hs : Sen a [2, 3, 5] w) (hl : L.length ≤ 9223372036854775807) (q1 : 2 ≤ L.length) (q2 : L.length ≤ 4000) (q3 : 1 ≤ S) (GF : goodT F = false) :
    Calls Tryd.prog 65 #[trk F S r L.length c] w (VPost a 3 w) := by
  have d1 : decide (S < 1) = false := decide_eq_false (by omega)
  have n1 : ¬ (L.length : Int) < 2 := by omega
  have n2 : ¬ (4000 : Int) < L.length := by omega
  have n0 : ¬ ((L.length : Int) - 1 = 0) := by omega
  have c3 := (hs 3 (by decide)).1
  simp only [gOf] at c3
  have hlt3 := lt_of_cellS c3
  have hne3 : ¬ (w.heap.size = 5) := by simp only at hlt3; omega
  have hu := errV_pos a (show 3 ≠ 0 by decide)
  unfold VPost trk
  rw [hu]
  clear hs hu
  obtain ⟨x0, x1⟩ : True ∧ True := ⟨trivial, trivial⟩
  have C3 := Lib.hid c3
  go_enter Tryd.func65, Tryd.ntmps65
  go_wp2
  refine Rel.wp_region_rel (SpecV 0) (by rfl) (Grow.lexB_of_fast (by kernel_rfl) (by kernel_rfl)) ?_
  repeat (first
    | (refine rel_call (f := 110) (args := #[.int .i64 _]) (by rfl) rfl (callAt_func rfl Tryd.func110 (by kernel_rfl) (by kernel_rfl) rfl) (fun w1 _ => (good_walk _ w1).mono fun e w' ⟨he, hb⟩ => ⟨_, he, rfl, by rw [← hb]; exact grow_refl _⟩) ?_; rintro _ rfl; simp only [Act.put, List.setIfInBounds_toArray, List.set_cons_zero, List.set_cons_succ, GF])
    | (refine rel_plain (by rfl) rfl ?_; intro K hK; go_big_quiet_op; go_big_quiet_on)
    | (refine rel_len (by rfl) rfl rfl Tryd.underlying82 ?_; simp only [Act.put, List.setIfInBounds_toArray, List.set_cons_zero, List.set_cons_succ])
    | (refine rel_skip (by rfl) ?_; simp only [Act.put, List.setIfInBounds_toArray, List.set_cons_zero, List.set_cons_succ]))
  refine Rel.wpRel_nil ?_
  intro w9 hB9 hG9
  clear hG9
  obtain ⟨d3, dl3⟩ := time_cell C3.out hB9
  have G := Lib.hid (grow_trans (grow_alloc (grow_refl w) _) hB9)
  clear c3
  go_wp2
  go_ret
  exact ⟨rfl, by first | exact G.out | (repeat (with_reducible first | exact grow_refl _ | exact G.out | refine Grow.grow_drewN ?_ _ | refine Grow.grow_drew ?_ | refine Grow.grow_alloc ?_ _))⟩
set_option maxRecDepth 100000 in
set_option maxHeartbeats 16000000 in
theorem valid_far (a : Nat → Addr) (F S : Int) (r : Option Addr) (L : List Int) (c : Nat) (w : World) (hs : Sen a [2, 3, 5] w) (hl : L.length ≤ 9223372036854775807) (q1 : 2 ≤ L.length) (q2 : L.length ≤ 4000) (q3 : 1 ≤ S) (GF : goodT F = true) (q4 : 600000000000000000 / ((L.length : Int) - 1) < S) :
    Calls Tryd.prog 65 #[trk F S r L.length c] w (VPost a 3 w) := by
  have d1 : decide (S < 1) = false := decide_eq_false (by omega)
  obtain ⟨Q, hQ⟩ : ∃ Q, (600000000000000000 : Int) / ((L.length : Int) - 1) = Q := ⟨_, rfl⟩
  rw [hQ] at q4
  have hQ2 : (600000000000000000 : Int).tdiv ((L.length : Int) - 1) = Q := by rw [Int.tdiv_eq_ediv_of_nonneg (by omega)]; exact hQ
  have hQ0 : 0 ≤ Q := by rw [← hQ]; exact Int.ediv_nonneg (by omega) (by omega)
  have hQ1 : Q ≤ 600000000000000000 := by rw [← hQ]; exact Int.ediv_le_self _ (by omega)
  have d2 : decide (Q < S) = true := decide_eq_true q4
  have n1 : ¬ (L.length : Int) < 2 := by omega
  have n2 : ¬ (4000 : Int) < L.length := by omega
  have n0 : ¬ ((L.length : Int) - 1 = 0) := by omega
  have c3 := (hs 3 (by decide)).1
  simp only [gOf] at c3
  have hlt3 := lt_of_cellS c3
  have hne3 : ¬ (w.heap.size = 5) := by simp only at hlt3; omega
  have hu := errV_pos a (show 3 ≠ 0 by decide)
  unfold VPost trk
  rw [hu]
  clear hs hu
  obtain ⟨x0, x1⟩ : True ∧ True := ⟨trivial, trivial⟩
  have C3 := Lib.hid c3
  go_enter Tryd.func65, Tryd.ntmps65
  go_wp2
  refine Rel.wp_region_rel (SpecV 0) (by rfl) (Grow.lexB_of_fast (by kernel_rfl) (by kernel_rfl)) ?_
  repeat (first
    | (refine rel_call (f := 110) (args := #[.int .i64 _]) (by rfl) rfl (callAt_func rfl Tryd.func110 (by kernel_rfl) (by kernel_rfl) rfl) (fun w1 _ => (good_walk _ w1).mono fun e w' ⟨he, hb⟩ => ⟨_, he, rfl, by rw [← hb]; exact grow_refl _⟩) ?_; rintro _ rfl; simp only [Act.put, List.setIfInBounds_toArray, List.set_cons_zero, List.set_cons_succ, GF])
    | (refine rel_plain (by rfl) rfl ?_; intro K hK; go_big_quiet_op; go_big_quiet_on)
    | (refine rel_len (by rfl) rfl rfl Tryd.underlying82 ?_; simp only [Act.put, List.setIfInBounds_toArray, List.set_cons_zero, List.set_cons_succ])
    | (refine rel_skip (by rfl) ?_; simp only [Act.put, List.setIfInBounds_toArray, List.set_cons_zero, List.set_cons_succ]))
  refine Rel.wpRel_nil ?_
  intro w9 hB9 hG9
  clear hG9
  obtain ⟨d3, dl3⟩ := time_cell C3.out hB9
  have G := Lib.hid (grow_trans (grow_alloc (grow_refl w) _) hB9)
  clear c3
  go_wp2
  go_ret
  exact ⟨rfl, by first | exact G.out | (repeat (with_reducible first | exact grow_refl _ | exact G.out | refine Grow.grow_drewN ?_ _ | refine Grow.grow_drew ?_ | refine Grow.grow_alloc ?_ _))⟩
set_option maxRecDepth 100000 in
set_option maxHeartbeats 16000000 in
theorem valid_last (a : Nat → Addr) (F S : Int) (r : Option Addr) (L : List Int) (c : Nat) (w : World) (hs : Sen a [2, 3, 5] w) (hl : L.length ≤ 9223372036854775807) (q1 : 2 ≤ L.length) (q2 : L.length ≤ 4000) (q3 : 1 ≤ S) (f1 : -300000000000000000 ≤ F) (f2 : F ≤ 300000000000000000) (GF : goodT F = true) (q4 : ¬ 600000000000000000 / ((L.length : Int) - 1) < S) (p0 : 0 ≤ ((L.length : Int) - 1) * S) (p1 : ((L.length : Int) - 1) * S ≤ 600000000000000000) (GL : goodT (lastT F S L.length) = false) :
    Calls Tryd.prog 65 #[trk F S r L.length c] w (VPost a 3 w) := by
  obtain ⟨Q, hQ⟩ : ∃ Q, (600000000000000000 : Int) / ((L.length : Int) - 1) = Q := ⟨_, rfl⟩
  rw [hQ] at q4
  have hQ2 : (600000000000000000 : Int).tdiv ((L.length : Int) - 1) = Q := by rw [Int.tdiv_eq_ediv_of_nonneg (by omega)]; exact hQ
  have hQ0 : 0 ≤ Q := by rw [← hQ]; exact Int.ediv_nonneg (by omega) (by omega)
  have hQ1 : Q ≤ 600000000000000000 := by rw [← hQ]; exact Int.ediv_le_self _ (by omega)
  have d2 : decide (Q < S) = false := decide_eq_false q4
  have d1 : decide (S < 1) = false := decide_eq_false (by omega)
  obtain ⟨l, hl2⟩ : ∃ l, lastT F S L.length = l := ⟨_, rfl⟩
  rw [hl2] at GL
  have LW := Lib.hid (fun w1 => show Calls Tryd.prog 107 #[.agg #[.int .i64 F, .int .i64 S, .slice r L.length c]] w1 fun e w' => e = .returned (.int .i64 l) ∧ Below w1.heap.size w1 w' from by
    rw [← hl2]
    exact last_walk F S r L.length c w1 (by omega) (by omega) f1 f2 p0 p1)
  have n1 : ¬ (L.length : Int) < 2 := by omega
  have n2 : ¬ (4000 : Int) < L.length := by omega
  have n0 : ¬ ((L.length : Int) - 1 = 0) := by omega
  have c3 := (hs 3 (by decide)).1
  simp only [gOf] at c3
  have hlt3 := lt_of_cellS c3
  have hne3 : ¬ (w.heap.size = 5) := by simp only at hlt3; omega
  have hu := errV_pos a (show 3 ≠ 0 by decide)
  unfold VPost trk
  rw [hu]
  clear hs hu
  obtain ⟨x0, x1⟩ : True ∧ True := ⟨trivial, trivial⟩
  have C3 := Lib.hid c3
  go_enter Tryd.func65, Tryd.ntmps65
  go_wp2
  refine Rel.wp_region_rel (SpecV l) (by rfl) (Grow.lexB_of_fast (by kernel_rfl) (by kernel_rfl)) ?_
  repeat (first
    | (refine rel_call (f := 110) (args := #[.int .i64 _]) (by rfl) rfl (callAt_func rfl Tryd.func110 (by kernel_rfl) (by kernel_rfl) rfl) (fun w1 _ => (good_walk _ w1).mono fun e w' ⟨he, hb⟩ => ⟨_, he, rfl, by rw [← hb]; exact grow_refl _⟩) ?_; rintro _ rfl; simp only [Act.put, List.setIfInBounds_toArray, List.set_cons_zero, List.set_cons_succ, GF, GL])
    | (refine rel_call (f := 107) (args := #[.agg #[.int .i64 _, .int .i64 _, .slice _ _ _]]) (by rfl) rfl (callAt_func rfl Tryd.func107 (by kernel_rfl) (by kernel_rfl) rfl) (fun w1 _ => (LW.out w1).mono fun e w' ⟨he, hb⟩ => ⟨_, he, rfl, hb⟩) ?_; rintro _ rfl; simp only [Act.put, List.setIfInBounds_toArray, List.set_cons_zero, List.set_cons_succ])
    | (refine rel_plain (by rfl) rfl ?_; intro K hK; go_big_quiet_op; go_big_quiet_on)
    | (refine rel_len (by rfl) rfl rfl Tryd.underlying82 ?_; simp only [Act.put, List.setIfInBounds_toArray, List.set_cons_zero, List.set_cons_succ])
    | (refine rel_skip (by rfl) ?_; simp only [Act.put, List.setIfInBounds_toArray, List.set_cons_zero, List.set_cons_succ]))
  refine Rel.wpRel_nil ?_
  intro w9 hB9 hG9
  clear hG9
  obtain ⟨d3, dl3⟩ := time_cell C3.out hB9
  have G := Lib.hid (grow_trans (grow_alloc (grow_refl w) _) hB9)
  clear c3
  go_wp2
  go_ret
  exact ⟨rfl, by first | exact G.out | (repeat (with_reducible first | exact grow_refl _ | exact G.out | refine Grow.grow_drewN ?_ _ | refine Grow.grow_drew ?_ | refine Grow.grow_alloc ?_ _))⟩
set_option maxRecDepth 100000 in
set_option maxHeartbeats 16000000 in
theorem valid_huge (a : Nat → Addr) (F S : Int) (r : Option Addr) (L : List Int) (c : Nat) (w : World) (hs : Sen a [2, 3, 5] w) (hl : L.length ≤ 9223372036854775807) (hr : InAt w r L) (q1 : 2 ≤ L.length) (q2 : L.length ≤ 4000) (q3 : 1 ≤ S) (f1 : -300000000000000000 ≤ F) (f2 : F ≤ 300000000000000000) (GF : goodT F = true) (q4 : ¬ 600000000000000000 / ((L.length : Int) - 1) < S) (p0 : 0 ≤ ((L.length : Int) - 1) * S) (p1 : ((L.length : Int) - 1) * S ≤ 600000000000000000) (GL : goodT (lastT F S L.length) = true) (hh : hugeL L = true) :
    Calls Tryd.prog 65 #[trk F S r L.length c] w (VPost a 5 w) := by
  have HT := Lib.hid (fun (X : World) (hX : Below w.heap.size w X) => hasT_walk r L c X (by omega) (hr.below hX))
  rw [hh] at HT
  clear hr
  obtain ⟨Q, hQ⟩ : ∃ Q, (600000000000000000 : Int) / ((L.length : Int) - 1) = Q := ⟨_, rfl⟩
  rw [hQ] at q4
  have hQ2 : (600000000000000000 : Int).tdiv ((L.length : Int) - 1) = Q := by rw [Int.tdiv_eq_ediv_of_nonneg (by omega)]; exact hQ
  have hQ0 : 0 ≤ Q := by rw [← hQ]; exact Int.ediv_nonneg (by omega) (by omega)
  have hQ1 : Q ≤ 600000000000000000 := by rw [← hQ]; exact Int.ediv_le_self _ (by omega)
  have d2 : decide (Q < S) = false := decide_eq_false q4
  have d1 : decide (S < 1) = false := decide_eq_false (by omega)
  obtain ⟨l, hl2⟩ : ∃ l, lastT F S L.length = l := ⟨_, rfl⟩
  rw [hl2] at GL
  have LW := Lib.hid (fun w1 => show Calls Tryd.prog 107 #[.agg #[.int .i64 F, .int .i64 S, .slice r L.length c]] w1 fun e w' => e = .returned (.int .i64 l) ∧ Below w1.heap.size w1 w' from by
    rw [← hl2]
    exact last_walk F S r L.length c w1 (by omega) (by omega) f1 f2 p0 p1)
  have n1 : ¬ (L.length : Int) < 2 := by omega
  have n2 : ¬ (4000 : Int) < L.length := by omega
  have n0 : ¬ ((L.length : Int) - 1 = 0) := by omega
  have c5 := (hs 5 (by decide)).1
  simp only [gOf] at c5
  have hlt5 := lt_of_cellS c5
  have hne5 : ¬ (w.heap.size = 2) := by simp only at hlt5; omega
  have hu := errV_pos a (show 5 ≠ 0 by decide)
  unfold VPost trk
  rw [hu]
  clear hs hu
  have C5 := Lib.hid c5
  clear c5
  go_enter Tryd.func65, Tryd.ntmps65
  go_wp2
  refine Rel.wp_region_rel (SpecV l) (by rfl) (Grow.lexB_of_fast (by kernel_rfl) (by kernel_rfl)) ?_
  repeat (first
    | (refine rel_call (f := 110) (args := #[.int .i64 _]) (by rfl) rfl (callAt_func rfl Tryd.func110 (by kernel_rfl) (by kernel_rfl) rfl) (fun w1 _ => (good_walk _ w1).mono fun e w' ⟨he, hb⟩ => ⟨_, he, rfl, by rw [← hb]; exact grow_refl _⟩) ?_; rintro _ rfl; simp only [Act.put, List.setIfInBounds_toArray, List.set_cons_zero, List.set_cons_succ, GF, GL])
    | (refine rel_call (f := 107) (args := #[.agg #[.int .i64 _, .int .i64 _, .slice _ _ _]]) (by rfl) rfl (callAt_func rfl Tryd.func107 (by kernel_rfl) (by kernel_rfl) rfl) (fun w1 _ => (LW.out w1).mono fun e w' ⟨he, hb⟩ => ⟨_, he, rfl, hb⟩) ?_; rintro _ rfl; simp only [Act.put, List.setIfInBounds_toArray, List.set_cons_zero, List.set_cons_succ])
    | (refine rel_plain (by rfl) rfl ?_; intro K hK; go_big_quiet_op; go_big_quiet_on)
    | (refine rel_len (by rfl) rfl rfl Tryd.underlying82 ?_; simp only [Act.put, List.setIfInBounds_toArray, List.set_cons_zero, List.set_cons_succ])
    | (refine rel_skip (by rfl) ?_; simp only [Act.put, List.setIfInBounds_toArray, List.set_cons_zero, List.set_cons_succ]))
  refine Rel.wpRel_nil ?_
  intro w9 hB9 hG9
  clear hG9
  have G := Lib.hid (grow_trans (grow_alloc (grow_refl w) _) hB9)
  have K9 := Lib.hid ((Known.new w #[.int .i64 F, .int .i64 S, .slice r L.length c] 111).below hB9)
  have kc := K9.out.cell 2
  have kl := K9.out.lt
  go_wp2_with (go_at_call 111; (with_reducible refine (HT.out _ G.out).mono ?_); rintro e w2 ⟨rfl, hb⟩; replace G := Lib.hid (grow_trans G.out hb); have d5 := (G.out.cell (p := ⟨2, 0, none⟩) hlt5).trans C5.out; have dl5 := lt_of_cellS d5; clear hb)
  go_ret
  exact ⟨rfl, by first | exact G.out | (repeat (with_reducible first | exact grow_refl _ | exact G.out | refine Grow.grow_drewN ?_ _ | refine Grow.grow_drew ?_ | refine Grow.grow_alloc ?_ _))⟩
set_option maxRecDepth 100000 in
set_option maxHeartbeats 16000000 in
theorem valid_fine (a : Nat → Addr) (F S : Int) (r : Option Addr) (L : List Int) (c : Nat) (w : World) (hs : Sen a [2, 3, 5] w) (hl : L.length ≤ 9223372036854775807) (hr : InAt w r L) (q1 : 2 ≤ L.length) (q2 : L.length ≤ 4000) (q3 : 1 ≤ S) (f1 : -300000000000000000 ≤ F) (f2 : F ≤ 300000000000000000) (GF : goodT F = true) (q4 : ¬ 600000000000000000 / ((L.length : Int) - 1) < S) (p0 : 0 ≤ ((L.length : Int) - 1) * S) (p1 : ((L.length : Int) - 1) * S ≤ 600000000000000000) (GL : goodT (lastT F S L.length) = true) (hh : hugeL L = false) :
    Calls Tryd.prog 65 #[trk F S r L.length c] w (VPost a 0 w) := by
  have HT := Lib.hid (fun (X : World) (hX : Below w.heap.size w X) => hasT_walk r L c X (by omega) (hr.below hX))
  rw [hh] at HT
  clear hr
  obtain ⟨Q, hQ⟩ : ∃ Q, (600000000000000000 : Int) / ((L.length : Int) - 1) = Q := ⟨_, rfl⟩
  rw [hQ] at q4
  have hQ2 : (600000000000000000 : Int).tdiv ((L.length : Int) - 1) = Q := by rw [Int.tdiv_eq_ediv_of_nonneg (by omega)]; exact hQ
  have hQ0 : 0 ≤ Q := by rw [← hQ]; exact Int.ediv_nonneg (by omega) (by omega)
  have hQ1 : Q ≤ 600000000000000000 := by rw [← hQ]; exact Int.ediv_le_self _ (by omega)
  have d2 : decide (Q < S) = false := decide_eq_false q4
  have d1 : decide (S < 1) = false := decide_eq_false (by omega)
  obtain ⟨l, hl2⟩ : ∃ l, lastT F S L.length = l := ⟨_, rfl⟩
  rw [hl2] at GL
  have LW := Lib.hid (fun w1 => show Calls Tryd.prog 107 #[.agg #[.int .i64 F, .int .i64 S, .slice r L.length c]] w1 fun e w' => e = .returned (.int .i64 l) ∧ Below w1.heap.size w1 w' from by
    rw [← hl2]
    exact last_walk F S r L.length c w1 (by omega) (by omega) f1 f2 p0 p1)
  have n1 : ¬ (L.length : Int) < 2 := by omega
  have n2 : ¬ (4000 : Int) < L.length := by omega
  have n0 : ¬ ((L.length : Int) - 1 = 0) := by omega
  unfold VPost trk
  rw [errV_zero]
  clear hs
  go_enter Tryd.func65, Tryd.ntmps65
  go_wp2
  refine Rel.wp_region_rel (SpecV l) (by rfl) (Grow.lexB_of_fast (by kernel_rfl) (by kernel_rfl)) ?_
  repeat (first
    | (refine rel_call (f := 110) (args := #[.int .i64 _]) (by rfl) rfl (callAt_func rfl Tryd.func110 (by kernel_rfl) (by kernel_rfl) rfl) (fun w1 _ => (good_walk _ w1).mono fun e w' ⟨he, hb⟩ => ⟨_, he, rfl, by rw [← hb]; exact grow_refl _⟩) ?_; rintro _ rfl; simp only [Act.put, List.setIfInBounds_toArray, List.set_cons_zero, List.set_cons_succ, GF, GL])
    | (refine rel_call (f := 107) (args := #[.agg #[.int .i64 _, .int .i64 _, .slice _ _ _]]) (by rfl) rfl (callAt_func rfl Tryd.func107 (by kernel_rfl) (by kernel_rfl) rfl) (fun w1 _ => (LW.out w1).mono fun e w' ⟨he, hb⟩ => ⟨_, he, rfl, hb⟩) ?_; rintro _ rfl; simp only [Act.put, List.setIfInBounds_toArray, List.set_cons_zero, List.set_cons_succ])
    | (refine rel_plain (by rfl) rfl ?_; intro K hK; go_big_quiet_op; go_big_quiet_on)
    | (refine rel_len (by rfl) rfl rfl Tryd.underlying82 ?_; simp only [Act.put, List.setIfInBounds_toArray, List.set_cons_zero, List.set_cons_succ])
    | (refine rel_skip (by rfl) ?_; simp only [Act.put, List.setIfInBounds_toArray, List.set_cons_zero, List.set_cons_succ]))
  refine Rel.wpRel_nil ?_
  intro w9 hB9 hG9
  clear hG9
  have G := Lib.hid (grow_trans (grow_alloc (grow_refl w) _) hB9)
  have K9 := Lib.hid ((Known.new w #[.int .i64 F, .int .i64 S, .slice r L.length c] 111).below hB9)
  have kc := K9.out.cell 2
  have kl := K9.out.lt
  go_wp2_with (go_at_call 111; (with_reducible refine (HT.out _ G.out).mono ?_); rintro e w2 ⟨rfl, hb⟩; replace G := Lib.hid (grow_trans G.out hb); clear hb)
  go_ret
  exact ⟨rfl, by first | exact G.out | (repeat (with_reducible first | exact grow_refl _ | exact G.out | refine Grow.grow_drewN ?_ _ | refine Grow.grow_drew ?_ | refine Grow.grow_alloc ?_ _))⟩
theorem valid_walk (a : Nat → Addr) (F S : Int) (r : Option Addr) (L : List Int) (c : Nat) (w : World) (hs : Sen a [2, 3, 5] w) (hl : L.length ≤ 9223372036854775807) (hr : InAt w r L) :
    Calls Tryd.prog 65 #[trk F S r L.length c] w (VPost a (trE F S L) w) := by
  obtain ⟨K, hK⟩ : ∃ K, trE F S L = K := ⟨_, rfl⟩
  rw [hK]
  unfold trE at hK
  by_cases q1 : L.length < 2
  · rw [if_pos (.inl q1)] at hK
    subst hK
    exact valid_few a F S r L c w hs hl q1
  by_cases q2 : 4000 < L.length
  · rw [if_pos (.inr q2)] at hK
    subst hK
    exact valid_many a F S r L c w hs hl q2
  rw [if_neg (by omega)] at hK
  by_cases q3 : S < 1
  · rw [if_neg (fun h => by have := h.2.1; omega)] at hK
    subst hK
    exact valid_step a F S r L c w hs hl (by omega) (by omega) q3
  by_cases g1 : goodT F = true
  · obtain ⟨f1, f2⟩ := (goodT_iff F).1 g1
    by_cases q4 : 600000000000000000 / ((L.length : Int) - 1) < S
    · have h2 := over_lt (by omega) q4
      have bad : ¬ goodT (lastT F S L.length) = true := fun h => by
        have := ((goodT_iff _).1 h).2
        unfold lastT at this
        omega
      rw [if_neg (fun h => bad h.2.2)] at hK
      subst hK
      exact valid_far a F S r L c w hs hl (by omega) (by omega) (by omega) g1 q4
    · have p1 := over_ge (by omega) q4
      have p0 : 0 ≤ ((L.length : Int) - 1) * S := Int.mul_nonneg (by omega) (by omega)
      by_cases g2 : goodT (lastT F S L.length) = true
      · rw [if_pos ⟨g1, by omega, g2⟩] at hK
        by_cases hh : hugeL L = true
        · rw [if_pos hh] at hK
          subst hK
          exact valid_huge a F S r L c w hs hl hr (by omega) (by omega) (by omega) f1 f2 g1 q4 p0 p1 g2 hh
        · rw [if_neg hh] at hK
          subst hK
          exact valid_fine a F S r L c w hs hl hr (by omega) (by omega) (by omega) f1 f2 g1 q4 p0 p1 g2 (by simpa using hh)
      · rw [if_neg (fun h => g2 h.2.2)] at hK
        subst hK
        exact valid_last a F S r L c w hs hl (by omega) (by omega) (by omega) f1 f2 g1 q4 p0 p1 (by simpa using g2)
  · rw [if_neg (fun h => g1 h.1)] at hK
    subst hK
    exact valid_from a F S r L c w hs hl (by omega) (by omega) (by omega) (by simpa using g1)
end Go.Proofs.YtlfpfeidaohjmaaDoor
