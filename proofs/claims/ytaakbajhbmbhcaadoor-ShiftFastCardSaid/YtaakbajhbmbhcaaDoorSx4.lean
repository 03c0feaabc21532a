/- How rows go together: plain; a row of the call's own; the document's two functions. -/
import Derived.Test.YtaakbajhbmbhcaaDoorSx3
import Derived.Laws.MakeOwn
import Derived.Laws.OwnMore
set_option linter.unusedSimpArgs false
set_option linter.unusedVariables false
namespace Go.Proofs.YtaakbajhbmbhcaaDoor
open Go.RowKit Go.Grow

/-- How rows go together at a shift, up to a place. -/
def crossUp (x y : Nat → Int) (n s : Nat) : Nat → Int
  | 0 => 0
  | i + 1 => wrap64 (crossUp x y n s i + wrap64 (x i * y ((i + s) % n)))
def crossZ (x y : Nat → Int) (n s : Nat) : Int := crossUp x y n s n

/-- The numbers z lie in block g, which is free to be written. -/
structure IRow (w : World) (g n : Nat) (z : Nat → Int) : Prop where
  lt : g < w.heap.size
  frozen : ∀ i, w.frozen? ⟨g, i, none⟩ = false
  cell : ∀ k, k < n → w.cell? ⟨g, k, none⟩ = some (.int .i64 (z k))
theorem IRow.below {w w' : World} {g n : Nat} {z : Nat → Int} (h : IRow w g n z) (hb : Below w.heap.size w w') : IRow w' g n z :=
  ⟨Nat.lt_of_lt_of_le h.lt hb.size, fun i => (hb.frozen (p := ⟨g, i, none⟩) h.lt).trans (h.frozen i), fun k hk => (hb.cell (p := ⟨g, k, none⟩) h.lt).trans (h.cell k hk)⟩
theorem IRow.at {w : World} {g n : Nat} {z y : Nat → Int} (h : IRow w g n z) (e : ∀ k, k < n → z k = y k) : IRow w g n y := ⟨h.lt, h.frozen, fun k hk => e k hk ▸ h.cell k hk⟩
theorem IRow.ints {w : World} {g n : Nat} {z : Nat → Int} (h : IRow w g n z) : IntsAt w (some ⟨g, 0, none⟩) n z := .inr ⟨g, 0, rfl, fun k hk => by rw [Nat.zero_add]; exact h.cell k hk⟩
def updZ (z : Nat → Int) (i : Nat) (v : Int) : Nat → Int := fun j => if j = i then v else z j
theorem IRow.set {w : World} {g n : Nat} {z : Nat → Int} (h : IRow w g n z) {i : Nat} (hi : i < n) (v : Int) : IRow (w.setCell ⟨g, i, none⟩ (.int .i64 v)) g n (updZ z i v) := by
  refine ⟨by simpa using h.lt, fun j => by rw [frozen?_setCell]; exact h.frozen j, fun k hk => ?_⟩
  rw [cell?_put, h.cell i hi, h.cell k hk]
  unfold updZ
  by_cases e : k = i
  · subst e; simp
  · rw [if_neg (fun h => e h.2.symm), if_neg e]
theorem IRow.made (w : World) (n : Nat) (t : TypeId) : IRow (w.alloc (.cells (madeCells #[.int .i64 0] n) t)) w.heap.size n (fun _ => 0) := by
  have K := Known.new w (madeCells #[.int .i64 0] n) t
  refine ⟨K.lt, K.frozen, fun k hk => ?_⟩
  rw [K.cell k, ← Array.getElem?_toList, toList_madeCells_one]
  simp [hk]
theorem info_int : (Tryd.prog.info? 3).map (fun i => (i.zero, i.size, i.bytes)) = some (some (.int .i64 0), 1, 8) := by kernel_rfl
theorem mk_ints (n : Nat) (hn : n ≤ 100000) (W : World) :
    (Instr.makeSlice 39 (.int .i64 (n : Int)) (.int .i64 (n : Int))).run Tryd.prog W = .ok (.slice (some ⟨W.heap.size, 0, none⟩) n n) (W.alloc (.cells (madeCells #[.int .i64 0] n) 3)) := by
  obtain ⟨i0, hi, hz0, hz1, hz2⟩ := info_parts info_int
  have hr := run_make (P := Tryd.prog) W 39 3 i0 (.int .i64 0) Tryd.underlying39 hi hz0 .i64 .i64 n n (by omega) (Int.le_refl _) (by rw [hz2]; omega) (by omega)
  simp only [Int.toNat_natCast, hz1, Nat.mul_one] at hr
  exact hr

set_option maxRecDepth 100000 in
set_option maxHeartbeats 8000000 in
theorem crossAt_walk (r1 r2 : Option Addr) (n cap1 cap2 s : Nat) (x y : Nat → Int) (w : World) (hn : n ≤ 256) (hs : s < n) (h1 : IntsAt w r1 n x) (h2 : IntsAt w r2 n y) :
    Calls Tryd.prog 24 #[.slice r1 n cap1, .slice r2 n cap2, .int .i64 s] w fun e w' => e = .returned (.int .i64 (crossZ x y n s)) ∧ ∃ q, w' = w.drewN q := by
  obtain ⟨b1, o1, rfl, hc1⟩ := h1.resolve_left (by omega)
  obtain ⟨b2, o2, rfl, hc2⟩ := h2.resolve_left (by omega)
  have HC1 := Lib.hid hc1
  have HC2 := Lib.hid hc2
  clear h1 h2 hc1 hc2
  unfold crossZ
  go_enter Tryd.func24, Tryd.ntmps24
  go_wp2
  go_loopw [8, 9] (fun v8 v9 wr => ∃ (k q : Nat), k ≤ n ∧ v9 = .int .i64 k ∧ v8 = .int .i64 (crossUp x y n s k) ∧ wr = w.drewN q) (fun _ i _ => n - (intOf i).toNat)
  case atStart => exact ⟨0, 0, Nat.zero_le _, rfl, rfl, rfl⟩
  case round =>
    obtain ⟨k, q, hk, rfl, rfl, rfl⟩ := hrel
    by_cases hlt : k < n
    · have c1 := HC1.out k hlt
      have hj : (k + s) % n < n := Nat.mod_lt _ (by omega)
      have c2 := HC2.out ((k + s) % n) hj
      have HS := Lib.hid (show crossUp x y n s (k + 1) = wrap64 (crossUp x y n s k + wrap64 (x k * y ((k + s) % n))) from rfl)
      have ew : IntKind.i64.wrap ((k : Int) + (s : Int)) = (k : Int) + (s : Int) := IntWalk.i64_in _ (by omega)
      have em : ((k : Int) + (s : Int)).tmod (n : Int) = (((k + s) % n : Nat) : Int) := by
        rw [← Int.natCast_add, ← Int.ofNat_tmod]
      generalize (k + s) % n = j at hj c2 HS em
      generalize x k = u at c1 HS
      generalize y j = v at c2 HS
      generalize crossUp x y n s k = t at HS ⊢
      have hj0 : (0 : Int) ≤ (j : Int) := by omega
      have hj1 : (j : Int) < (n : Int) := by omega
      have hk0 : (0 : Int) ≤ (k : Int) := by omega
      have hk1 : (k : Int) < (n : Int) := by omega
      have hn0 : ¬ ((n : Int) = 0) := by omega
      go_wp2
      go_quiet (fail)
      go_wp2
      go_roundw
      case rel => exact ⟨k + 1, _, by omega, by go_num, by rw [HS.out], rfl⟩
      case measure => simp [intOf]; omega
    · obtain rfl : k = n := by omega
      go_wp2
      go_ret
      exact ⟨rfl, _, rfl⟩
/-- At the head of the loop over the shifts. -/
def CrossRel (x y : Nat → Int) (n g : Nat) (w : World) (v23 : Value) (wr : World) : Prop :=
  ∃ s : Nat, s ≤ n ∧ v23 = .int .i64 s ∧ IRow wr g n (fun j => if j < s then crossZ x y n j else 0) ∧ Below w.heap.size w wr
def CrossRel2 (x y : Nat → Int) (n g s : Nat) (w : World) (v28 : Value) (wr : World) : Prop :=
  ∃ i : Nat, i ≤ n ∧ v28 = .int .i64 i ∧ IRow wr g n (fun j => if j < s then crossZ x y n j else if j = s then crossUp x y n s i else 0) ∧ Below w.heap.size w wr
def CrossYes (x y : Nat → Int) (n : Nat) (w : World) (e : Ending) (w' : World) : Prop :=
  ∃ g, e = .returned (.tuple #[.slice (some ⟨g, 0, none⟩) n n, .nilIface]) ∧ w.heap.size ≤ g ∧ IRow w' g n (crossZ x y n) ∧ Below w.heap.size w w'
set_option maxRecDepth 100000 in
set_option maxHeartbeats 8000000 in
theorem cross_yes (a : Nat → Addr) (r1 r2 : Option Addr) (n cap1 cap2 : Nat) (x y : Nat → Int) (w : World) (hs : Sen a [2, 5] w) (h1 : IntsAt w r1 n x) (h2 : IntsAt w r2 n y) (hE : rowsE n n x y = 0) (hn : n ≤ 256) (hn0 : 0 < n) :
    Calls Tryd.prog 21 #[.slice r1 n cap1, .slice r2 n cap2] w (CrossYes x y n w) := by
  have RW := Lib.hid (rows_walk a r1 r2 n n cap1 cap2 x y w (by omega) (by omega) hs h1 h2)
  rw [hE, errV_zero] at RW
  obtain ⟨b1, o1, rfl, hc1⟩ := h1.resolve_left (by omega)
  obtain ⟨b2, o2, rfl, hc2⟩ := h2.resolve_left (by omega)
  have hb1 : b1 < w.heap.size := lt_of_cell (hc1 0 hn0)
  have hb2 : b2 < w.heap.size := lt_of_cell (hc2 0 hn0)
  have HC1 := Lib.hid hc1
  have HC2 := Lib.hid hc2
  clear h1 h2 hc1 hc2 hE hs
  have hmk := mk_ints n (by omega)
  go_enter Tryd.func21, Tryd.ntmps21
  go_wp2_with (go_at_call 42; (with_reducible refine RW.out.mono ?_); rintro e w1 ⟨rfl, hb⟩; have HB := Lib.hid hb; clear hb)
  have hg := HB.out.size
  go_loopw [23] (fun v23 wr => CrossRel x y n w1.heap.size w v23 wr) (fun i _ => n - (intOf i).toNat)
  case atStart => exact ⟨0, Nat.zero_le _, rfl, (IRow.made _ _ _).at fun k hk => by simp, grow_alloc HB.out _⟩
  case round =>
    clear hmk
    obtain ⟨s, hs, rfl, hrow, hb⟩ := hrel
    have R := Lib.hid hrow
    have G := Lib.hid hb
    clear hrow hb HB
    by_cases hlt : s < n
    · obtain ⟨wo, hwo⟩ : ∃ wo : World, wo = wr := ⟨_, rfl⟩
      generalize w1.heap.size = g at *
      go_wp2
      go_loopw [28] (fun v28 wr => CrossRel2 x y n g s w v28 wr) (fun i _ => n - (intOf i).toNat)
      case atStart => exact ⟨0, Nat.zero_le _, rfl, R.out.at fun k hk => by simp [crossUp], G.out⟩
      case round =>
        clear R G hwo
        obtain ⟨i, hi, rfl, hrow, hb⟩ := hrel
        have R := Lib.hid hrow
        have G := Lib.hid hb
        clear hrow hb
        by_cases hil : i < n
        · have c1 := (G.out.cell (p := ⟨b1, o1 + i, none⟩) hb1).trans (HC1.out i hil)
          have hj : (i + s) % n < n := Nat.mod_lt _ (by omega)
          have c2 := (G.out.cell (p := ⟨b2, o2 + (i + s) % n, none⟩) hb2).trans (HC2.out ((i + s) % n) hj)
          have HS := Lib.hid (show crossUp x y n s (i + 1) = wrap64 (crossUp x y n s i + wrap64 (x i * y ((i + s) % n))) from rfl)
          have ew : IntKind.i64.wrap ((i : Int) + (s : Int)) = (i : Int) + (s : Int) := IntWalk.i64_in _ (by omega)
          have em : ((i : Int) + (s : Int)).tmod (n : Int) = (((i + s) % n : Nat) : Int) := by
            rw [← Int.natCast_add, ← Int.ofNat_tmod]
          have cg := R.out.cell s hlt
          have fg := R.out.frozen s
          have lg := R.out.lt
          simp only [Nat.lt_irrefl, if_false, if_true] at cg
          generalize (i + s) % n = j at hj c2 HS em
          generalize x i = u at c1 HS
          generalize y j = v at c2 HS
          generalize crossUp x y n s i = t at HS cg
          have hj0 : (0 : Int) ≤ (j : Int) := by omega
          have hj1 : (j : Int) < (n : Int) := by omega
          have hk0 : (0 : Int) ≤ (i : Int) := by omega
          have hk1 : (i : Int) < (n : Int) := by omega
          have hs0 : (0 : Int) ≤ (s : Int) := by omega
          have hs1 : (s : Int) < (n : Int) := by omega
          have hnn : ¬ ((n : Int) = 0) := by omega
          go_wp2
          go_region
          go_wp2
          go_roundw
          case rel =>
            exact ⟨i + 1, by omega, by go_num, ((R.out.set hlt _).at fun k hk => by
              unfold updZ
              by_cases e : k = s
              · subst e; simp [HS.out]
              · simp [e]).below (grow_drew (grow_refl _)), grow_drew (grow_setCell G.out hg _)⟩
          case measure => simp [intOf]; omega
        · obtain rfl : i = n := by omega
          go_wp2
          go_roundw
          case rel =>
            exact ⟨s + 1, by omega, by go_num, R.out.at fun k hk => by
              rcases Nat.lt_trichotomy k s with h | h | h
              · simp [h, Nat.lt_succ_of_lt h]
              · subst h; simp [crossZ]
              · rw [if_neg (by omega), if_neg (by omega), if_neg (by omega)], G.out⟩
          case measure => simp [intOf]; omega
    · obtain rfl : s = n := by omega
      go_wp2
      go_ret2
      exact ⟨_, rfl, by omega, R.out.at fun k hk => by simp [hk], G.out⟩
theorem errV_pos2 (a : Nat → Addr) {k : Nat} (h : k ≠ 0) : ∃ u, errV a k = .iface 138 (.pointer (some u)) := ⟨_, errV_pos a h⟩
set_option maxRecDepth 100000 in
set_option maxHeartbeats 8000000 in
theorem cross_no (a : Nat → Addr) (r1 r2 : Option Addr) (n m cap1 cap2 : Nat) (x y : Nat → Int) (w : World) (hn : n ≤ 9223372036854775807) (hm : m ≤ 9223372036854775807) (hs : Sen a [2, 5] w) (h1 : IntsAt w r1 n x) (h2 : IntsAt w r2 m y) (hE : rowsE n m x y ≠ 0) :
    Calls Tryd.prog 21 #[.slice r1 n cap1, .slice r2 m cap2] w fun e w' => e = .returned (.tuple #[.slice none 0 0, errV a (rowsE n m x y)]) ∧ Below w.heap.size w w' := by
  have RW := Lib.hid (rows_walk a r1 r2 n m cap1 cap2 x y w hn hm hs h1 h2)
  obtain ⟨u, hu⟩ := errV_pos2 a hE
  rw [hu] at RW ⊢
  clear h1 h2 hE hs hu
  go_enter Tryd.func21, Tryd.ntmps21
  go_wp2_with (go_at_call 42; (with_reducible refine RW.out.mono ?_); rintro e w1 ⟨rfl, hb⟩; have HB := Lib.hid hb; clear hb)
  go_ret2
  exact ⟨rfl, HB.out⟩
end Go.Proofs.YtaakbajhbmbhcaaDoor
