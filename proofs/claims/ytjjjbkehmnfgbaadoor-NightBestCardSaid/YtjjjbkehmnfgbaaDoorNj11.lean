/- The night's best plan: the ways in memory. -/
import Derived.Test.YtjjjbkehmnfgbaaDoorNj10
set_option linter.unusedSimpArgs false
set_option linter.unusedVariables false
namespace Go.Proofs.YtjjjbkehmnfgbaaDoor
open Go.RowKit Go.Grow Go.Night

/-- The ways lie in block g, which is free to be written. -/
structure WayRow (w : World) (g N : Nat) (W : Nat → Wy) : Prop where
  lt : g < w.heap.size
  frozen : ∀ i, w.frozen? ⟨g, i, none⟩ = false
  cell : ∀ k, k < N → w.cell? ⟨g, k * 4, none⟩ = some (.bool (W k).ok) ∧ w.cell? ⟨g, k * 4 + 1, none⟩ = some (.int .i64 (W k).fin) ∧ w.cell? ⟨g, k * 4 + 2, none⟩ = some (.int .i64 ((W k).last : Nat)) ∧ w.cell? ⟨g, k * 4 + 3, none⟩ = some (.int .i64 (W k).frm)
theorem WayRow.below {w w' : World} {g N : Nat} {W : Nat → Wy} (h : WayRow w g N W) (hb : Below w.heap.size w w') : WayRow w' g N W :=
  ⟨Nat.lt_of_lt_of_le h.lt hb.size, fun i => (hb.frozen (p := ⟨g, i, none⟩) h.lt).trans (h.frozen i), fun k hk => by
    obtain ⟨h0, h1, h2, h3⟩ := h.cell k hk
    exact ⟨(hb.cell (p := ⟨g, _, none⟩) h.lt).trans h0, (hb.cell (p := ⟨g, _, none⟩) h.lt).trans h1, (hb.cell (p := ⟨g, _, none⟩) h.lt).trans h2, (hb.cell (p := ⟨g, _, none⟩) h.lt).trans h3⟩⟩
theorem WayRow.at {w : World} {g N : Nat} {W V : Nat → Wy} (h : WayRow w g N W) (e : ∀ k, k < N → W k = V k) : WayRow w g N V := ⟨h.lt, h.frozen, fun k hk => e k hk ▸ h.cell k hk⟩
theorem WayRow.set {w : World} {g N : Nat} {W : Nat → Wy} (h : WayRow w g N W) {i : Nat} (hi : i < N) (x : Wy) : WayRow ((((w.setCell ⟨g, i * 4, none⟩ (.bool x.ok)).setCell ⟨g, i * 4 + 1, none⟩ (.int .i64 x.fin)).setCell ⟨g, i * 4 + 2, none⟩ (.int .i64 (x.last : Nat))).setCell ⟨g, i * 4 + 3, none⟩ (.int .i64 x.frm)) g N (updW W i x) := by
  obtain ⟨h0, h1, h2, h3⟩ := h.cell i hi
  refine ⟨by simpa using h.lt, fun j => by rw [frozen?_setCell, frozen?_setCell, frozen?_setCell, frozen?_setCell]; exact h.frozen j, fun k hk => ?_⟩
  simp only [cell?_put]
  unfold updW
  by_cases e : k = i
  · subst e
    rw [if_pos rfl]
    have a1 : ¬ (k * 4 + 1 = k * 4) := by omega
    have a2 : ¬ (k * 4 + 2 = k * 4) := by omega
    have a3 : ¬ (k * 4 + 3 = k * 4) := by omega
    have b1 : ¬ (k * 4 = k * 4 + 1) := by omega
    have b2 : ¬ (k * 4 = k * 4 + 2) := by omega
    have b3 : ¬ (k * 4 = k * 4 + 3) := by omega
    simp [a1, a2, a3, b1, b2, b3, h0, h1, h2, h3]
  · obtain ⟨g0, g1, g2, g3⟩ := h.cell k hk
    have n : ∀ a b, a < 4 → b < 4 → ¬ (i * 4 + a = k * 4 + b) := fun a b _ _ => by omega
    have n00 := n 0 0 (by omega) (by omega)
    rw [if_neg e]
    refine ⟨?_, ?_, ?_, ?_⟩
    · rw [if_neg (fun h => n 3 0 (by omega) (by omega) h.2), if_neg (fun h => n 2 0 (by omega) (by omega) h.2), if_neg (fun h => n 1 0 (by omega) (by omega) h.2), if_neg (fun h => n00 h.2)]; exact g0
    · rw [if_neg (fun h => n 3 1 (by omega) (by omega) h.2), if_neg (fun h => n 2 1 (by omega) (by omega) h.2), if_neg (fun h => n 1 1 (by omega) (by omega) h.2), if_neg (fun h => n 0 1 (by omega) (by omega) h.2)]; exact g1
    · rw [if_neg (fun h => n 3 2 (by omega) (by omega) h.2), if_neg (fun h => n 2 2 (by omega) (by omega) h.2), if_neg (fun h => n 1 2 (by omega) (by omega) h.2), if_neg (fun h => n 0 2 (by omega) (by omega) h.2)]; exact g2
    · rw [if_neg (fun h => n 3 3 (by omega) (by omega) h.2), if_neg (fun h => n 2 3 (by omega) (by omega) h.2), if_neg (fun h => n 1 3 (by omega) (by omega) h.2), if_neg (fun h => n 0 3 (by omega) (by omega) h.2)]; exact g3
theorem madeCells_four (a b c d : Value) (n k : Nat) (h : k < n) : (madeCells #[a, b, c, d] (n * 4))[k * 4]? = some a ∧ (madeCells #[a, b, c, d] (n * 4))[k * 4 + 1]? = some b ∧ (madeCells #[a, b, c, d] (n * 4))[k * 4 + 2]? = some c ∧ (madeCells #[a, b, c, d] (n * 4))[k * 4 + 3]? = some d := by
  unfold madeCells
  refine ⟨?_, ?_, ?_, ?_⟩ <;>
  · rw [Array.getElem?_map, Array.getElem?_range, if_pos (by omega)]
    simp
theorem info_way : (Tryd.prog.info? 100).map (fun i => (i.zero, i.size, i.bytes)) = some (some (.agg #[.bool false, .int .i64 0, .int .i64 0, .int .i64 0]), 4, 32) := by kernel_rfl
theorem mk_ways (n : Nat) (hn : n ≤ 100000) (W : World) :
    (Instr.makeSlice 98 (.int .i64 (n : Int)) (.int .i64 (n : Int))).run Tryd.prog W = .ok (.slice (some ⟨W.heap.size, 0, none⟩) n n) (W.alloc (.cells (madeCells #[.bool false, .int .i64 0, .int .i64 0, .int .i64 0] (n * 4)) 100)) := by
  obtain ⟨i0, hi, hz0, hz1, hz2⟩ := info_parts info_way
  have hr := run_make (P := Tryd.prog) W 98 100 i0 (.agg #[.bool false, .int .i64 0, .int .i64 0, .int .i64 0]) Tryd.underlying98 hi hz0 .i64 .i64 n n (by omega) (Int.le_refl _) (by rw [hz2]; omega) (by omega)
  simp only [Int.toNat_natCast, hz1] at hr
  exact hr
theorem WayRow.made (w : World) (n : Nat) (t : TypeId) : WayRow (w.alloc (.cells (madeCells #[.bool false, .int .i64 0, .int .i64 0, .int .i64 0] (n * 4)) t)) w.heap.size n (fun _ => ⟨false, 0, 0, 0⟩) := by
  have K := Known.new w (madeCells #[.bool false, .int .i64 0, .int .i64 0, .int .i64 0] (n * 4)) t
  refine ⟨K.lt, K.frozen, fun k hk => ?_⟩
  obtain ⟨h0, h1, h2, h3⟩ := madeCells_four (.bool false) (.int .i64 0) (.int .i64 0) (.int .i64 0) n k hk
  exact ⟨by rw [K.cell]; exact h0, by rw [K.cell]; exact h1, by rw [K.cell]; exact h2, by rw [K.cell]; exact h3⟩
theorem shl_n : ∀ n : Nat, n < 7 → wrap64 (2 ^ n) = ((2 ^ n : Nat) : Int) := by decide +kernel
/-- What a way's end may be. -/
theorem way_in {l : List Jb} (hF : Fine l) (m X : Nat) (h : (Night.ways l m X).ok = true) : -4611686018427387904 ≤ (Night.ways l m X).fin ∧ (Night.ways l m X).fin ≤ 1152921504606846976 := by
  rcases ways_sound l X m h with ⟨_, g⟩ | ⟨Y, k, a, _, hk, _, _, _, ha, g⟩
  · rw [g]; unfold t0; omega
  · rw [g]
    have h1 := hF.long _ (at_mem hk)
    obtain ⟨h2, v, hv, h3, h4⟩ := soon_in ha
    have h5 := hF.win _ (at_mem hk) v hv
    simp only; omega
theorem inner_in {l : List Jb} (hF : Fine l) (s X : Nat) (h0 : (Night.ways l s s).ok = true) : ∀ k, k ≤ l.length → (inner l (Night.ways l s s).fin s (Night.ways l s) k X).ok = true → -4611686018427387904 ≤ (inner l (Night.ways l s s).fin s (Night.ways l s) k X).fin ∧ (inner l (Night.ways l s s).fin s (Night.ways l s) k X).fin ≤ 1152921504606846976 := fun k hk h => by
  rcases inner_cases l (Night.ways l s s).fin s (Night.ways l s) X k with g | ⟨i, a, hi, _, _, ha, g⟩
  · rw [g] at h ⊢; exact way_in hF s X h
  · rw [g]
    have h1 := hF.long _ (at_mem (show i < l.length by omega))
    obtain ⟨h2, v, hv, h3, h4⟩ := soon_in ha
    have h5 := hF.win _ (at_mem (show i < l.length by omega)) v hv
    simp only; omega
theorem soon_bound {l : List Jb} (hF : Fine l) {k : Nat} (hk : k < l.length) {t a : Int} (ha : soon (at_ l k) t = some a) : -1152921504606846976 ≤ a ∧ a + (at_ l k).long ≤ 1152921504606846976 := by
  have h1 := hF.long _ (at_mem hk)
  obtain ⟨h2, v, hv, h3, h4⟩ := soon_in ha
  have h5 := hF.win _ (at_mem hk) v hv
  omega
theorem worthOf_in {l : List Jb} (hF : Fine l) (X : Nat) : ∀ k, k ≤ l.length → 0 ≤ wUp l X k ∧ wUp l X k ≤ k * 1099511627776
  | 0, _ => ⟨Int.le_refl _, Int.le_refl _⟩
  | k + 1, hk => by
    obtain ⟨h1, h2⟩ := worthOf_in hF X k (by omega)
    have := hF.worth _ (at_mem (show k < l.length by omega))
    unfold wUp
    split <;> omega
theorem add_lt {l : List Jb} {s k : Nat} (hs : s < 2 ^ l.length) (hk : k < l.length) : add s k < 2 ^ l.length := by
  refine Nat.lt_pow_two_of_testBit _ fun i hi => ?_
  rw [testBit_add, Nat.testBit_lt_two_pow (Nat.lt_of_lt_of_le hs (Nat.pow_le_pow_right (by omega) hi))]
  simp; omega
end Go.Proofs.YtjjjbkehmnfgbaaDoor
