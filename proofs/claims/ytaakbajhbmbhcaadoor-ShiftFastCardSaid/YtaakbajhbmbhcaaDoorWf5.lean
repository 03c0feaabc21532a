/- Waves by halves, the document's: rows of pairs that are free to be written; a row of one. -/
import Derived.Test.YtaakbajhbmbhcaaDoorWf4
set_option linter.unusedSimpArgs false
set_option linter.unusedVariables false
namespace Go.Proofs.YtaakbajhbmbhcaaDoor
open Go.RowKit Go.Fl Go.Grow Go.Tr

/-- The pairs X lie in w. -/
def PIn (w : World) (r : Option Addr) (n : Nat) (X : Nat → C2) : Prop := n = 0 ∨ ∃ b o, r = some ⟨b, o, none⟩ ∧ ∀ k, k < n → ∃ p q, w.cell? ⟨b, o + k * 2, none⟩ = some (.float .f64 p) ∧ w.cell? ⟨b, o + k * 2 + 1, none⟩ = some (.float .f64 q) ∧ fl p = (X k).re ∧ fl q = (X k).im
theorem PIn.below {w w' : World} {r : Option Addr} {n : Nat} {X : Nat → C2} (h : PIn w r n X) (hb : Below w.heap.size w w') : PIn w' r n X := by
  rcases h with h | ⟨b, o, rfl, hc⟩
  · exact .inl h
  · refine .inr ⟨b, o, rfl, fun k hk => ?_⟩
    obtain ⟨p, q, h0, h1, h2⟩ := hc k hk
    have hl : b < w.heap.size := lt_of_cell h0
    exact ⟨p, q, (hb.cell (p := ⟨b, o + k * 2, none⟩) hl).trans h0, (hb.cell (p := ⟨b, o + k * 2 + 1, none⟩) hl).trans h1, h2⟩
/-- The pairs X lie in block g, which is free to be written. -/
structure PRow (w : World) (g n : Nat) (X : Nat → C2) : Prop where
  lt : g < w.heap.size
  frozen : ∀ i, w.frozen? ⟨g, i, none⟩ = false
  cell : ∀ k, k < n → ∃ a b, w.cell? ⟨g, k * 2, none⟩ = some (.float .f64 a) ∧ w.cell? ⟨g, k * 2 + 1, none⟩ = some (.float .f64 b) ∧ fl a = (X k).re ∧ fl b = (X k).im
theorem PRow.below {w w' : World} {g n : Nat} {X : Nat → C2} (h : PRow w g n X) (hb : Below w.heap.size w w') : PRow w' g n X :=
  ⟨Nat.lt_of_lt_of_le h.lt hb.size, fun i => (hb.frozen (p := ⟨g, i, none⟩) h.lt).trans (h.frozen i), fun k hk => by
    obtain ⟨a, b, h0, h1, h2, h3⟩ := h.cell k hk
    exact ⟨a, b, (hb.cell (p := ⟨g, k * 2, none⟩) h.lt).trans h0, (hb.cell (p := ⟨g, k * 2 + 1, none⟩) h.lt).trans h1, h2, h3⟩⟩
theorem PRow.but {w w' : World} {g g2 n : Nat} {X : Nat → C2} (h : PRow w g n X) (hb : But g2 w w') (hne : g ≠ g2) : PRow w' g n X :=
  ⟨Nat.lt_of_lt_of_le h.lt hb.size, fun i => by rw [← h.frozen i]; unfold World.frozen?; rw [hb.block g h.lt hne], fun k hk => by
    obtain ⟨a, b, h0, h1, h2, h3⟩ := h.cell k hk
    exact ⟨a, b, (cell?_but hb (p := ⟨g, k * 2, none⟩) h.lt hne).trans h0, (cell?_but hb (p := ⟨g, k * 2 + 1, none⟩) h.lt hne).trans h1, h2, h3⟩⟩
theorem PRow.at {w : World} {g n : Nat} {X Y : Nat → C2} (h : PRow w g n X) (e : ∀ k, k < n → X k = Y k) : PRow w g n Y := ⟨h.lt, h.frozen, fun k hk => e k hk ▸ h.cell k hk⟩
theorem PRow.in {w : World} {g n : Nat} {X : Nat → C2} (h : PRow w g n X) : PIn w (some ⟨g, 0, none⟩) n X := .inr ⟨g, 0, rfl, fun k hk => by rw [Nat.zero_add]; exact h.cell k hk⟩
theorem PRow.set {w : World} {g n : Nat} {X : Nat → C2} (h : PRow w g n X) {i : Nat} (hi : i < n) (x : C2) {a b : Nat} (ha : fl a = x.re) (hb : fl b = x.im) : PRow ((w.setCell ⟨g, i * 2, none⟩ (.float .f64 a)).setCell ⟨g, i * 2 + 1, none⟩ (.float .f64 b)) g n (updC X i x) := by
  obtain ⟨a0, b0, h0, h1, _, _⟩ := h.cell i hi
  refine ⟨by simpa using h.lt, fun j => by rw [frozen?_setCell, frozen?_setCell]; exact h.frozen j, fun k hk => ?_⟩
  simp only [cell?_put]
  unfold updC
  by_cases e : k = i
  · subst e
    refine ⟨a, b, ?_, ?_, by simpa using ha, by simpa using hb⟩
    · have n1 : ¬ (k * 2 + 1 = k * 2) := by omega
      simp [n1, h0]
    · have n1 : ¬ (k * 2 = k * 2 + 1) := by omega
      simp [n1, h1]
  · obtain ⟨a1, b1, g0, g1, g2, g3⟩ := h.cell k hk
    refine ⟨a1, b1, ?_, ?_, by simpa [e] using g2, by simpa [e] using g3⟩
    · have n1 : ¬ (i * 2 + 1 = k * 2) := by omega
      have n2 : ¬ (i * 2 = k * 2) := by omega
      rw [if_neg (fun h => n1 h.2), if_neg (fun h => n2 h.2)]; exact g0
    · have n1 : ¬ (i * 2 + 1 = k * 2 + 1) := by omega
      have n2 : ¬ (i * 2 = k * 2 + 1) := by omega
      rw [if_neg (fun h => n1 h.2), if_neg (fun h => n2 h.2)]; exact g1
theorem madeCells_two (n k : Nat) (h : k < n) : (madeCells #[.float .f64 0, .float .f64 0] (n * 2))[k * 2]? = some (.float .f64 0) ∧ (madeCells #[.float .f64 0, .float .f64 0] (n * 2))[k * 2 + 1]? = some (.float .f64 0) := by
  unfold madeCells
  constructor
  · rw [Array.getElem?_map, Array.getElem?_range, if_pos (by omega)]
    simp
  · rw [Array.getElem?_map, Array.getElem?_range, if_pos (by omega)]
    simp
theorem PRow.made (w : World) (n : Nat) (t : TypeId) : PRow (w.alloc (.cells (madeCells #[.float .f64 0, .float .f64 0] (n * 2)) t)) w.heap.size n (fun _ => ⟨some 0, some 0⟩) := by
  have K := Known.new w (madeCells #[.float .f64 0, .float .f64 0] (n * 2)) t
  refine ⟨K.lt, K.frozen, fun k hk => ⟨0, 0, ?_, ?_, fl_zero, fl_zero⟩⟩
  · rw [K.cell]; exact (madeCells_two n k hk).1
  · rw [K.cell]; exact (madeCells_two n k hk).2
theorem mk_pr (n : Nat) (hn : n ≤ 100000) (W : World) :
    (Instr.makeSlice 22 (.int .i64 (n : Int)) (.int .i64 (n : Int))).run Tryd.prog W = .ok (.slice (some ⟨W.heap.size, 0, none⟩) n n) (W.alloc (.cells (madeCells #[.float .f64 0, .float .f64 0] (n * 2)) 28)) := by
  obtain ⟨i0, hi, hz0, hz1, hz2⟩ := info_parts info_pr
  have hr := run_make (P := Tryd.prog) W 22 28 i0 (.agg #[.float .f64 0, .float .f64 0]) Tryd.underlying22 hi hz0 .i64 .i64 n n (by omega) (Int.le_refl _) (by rw [hz2]; omega) (by omega)
  simp only [Int.toNat_natCast, hz1] at hr
  exact hr
def HalvD (n : Nat) (Y : Nat → C2) (w : World) (e : Ending) (w' : World) : Prop :=
  ∃ g c, e = .returned (.slice (some ⟨g, 0, none⟩) n c) ∧ w.heap.size ≤ g ∧ PRow w' g n Y ∧ Below w.heap.size w w'
set_option maxRecDepth 100000 in
set_option maxHeartbeats 4000000 in
theorem halvD_one (back : Bool) (r : Option Addr) (N f s cap : Nat) (X : Nat → C2) (w : World) (hN : N ≤ 256) (hs : N / s = 1) (hs2 : s ≤ 256) (hf : f < N) (hr : PIn w r N X) :
    Calls Tryd.prog 47 #[.slice r N cap, .int .i64 f, .int .i64 s, .bool back] w (HalvD 1 (fun _ => X f) w) := by
  have hs0 : 0 < s := by
    rcases Nat.eq_zero_or_pos s with h | h
    · rw [h, Nat.div_zero] at hs; cases hs
    · exact h
  obtain ⟨b1, o1, rfl, hc⟩ := hr.resolve_left (by omega)
  obtain ⟨p, q, c0, c1, h1, h2⟩ := hc f hf
  have hb1 : b1 < w.heap.size := lt_of_cell c0
  have H1 := Lib.hid h1
  have H2 := Lib.hid h2
  have e0 : (N : Int).tdiv (s : Int) = 1 := by
    rw [Int.tdiv_eq_ediv_of_nonneg (by omega), ← Int.natCast_ediv, hs]; rfl
  have n0 : ¬ ((s : Int) = 0) := by omega
  have i0 : (0 : Int) ≤ (f : Int) := by omega
  have i1 : (f : Int) < (N : Int) := by omega
  clear hr hc h1 h2 hs
  go_enter Tryd.func47, Tryd.ntmps47
  go_wp2
  go_ret
  have K := Known.new w #[Value.float .f64 p, .float .f64 q] 28
  refine ⟨_, _, rfl, Nat.le_refl _, ⟨K.lt, K.frozen, fun k hk => ?_⟩, grow_alloc (grow_refl w) _⟩
  obtain rfl : k = 0 := by omega
  exact ⟨p, q, K.cell 0, K.cell 1, H1.out, H2.out⟩
end Go.Proofs.YtaakbajhbmbhcaaDoor
