/- Waves by halves: the program's Fast. -/
import Derived.Test.YtaakbajhbmbhcaaDoorWf3
import Derived.BigQuiet
set_option linter.unusedSimpArgs false
set_option linter.unusedVariables false
namespace Go.Proofs.YtaakbajhbmbhcaaDoor
open Go.RowKit Go.Fl Go.Grow Go.Tr

theorem halves_walk (back : Bool) : ∀ (m h : Nat), 2 ^ m = h → h ≤ 256 → ∀ (r : Option Addr) (cap : Nat) (X : Nat → C2) (w : World), CIn w r h X → Calls Tryd.prog 33 #[.slice r h cap, .bool back] w (HalvPost h (fastZ back m X) w)
  | 0, h, hh, _, r, cap, X, w, hr => by
    obtain rfl : h = 1 := by rw [← hh]
    exact halves_one back r cap X w hr
  | m + 1, h, hh, hl, r, cap, X, w, hr => by
    obtain ⟨q, hq⟩ : ∃ q, 2 ^ m = q := ⟨_, rfl⟩
    have e : 2 * q = h := by rw [← hh, Nat.pow_succ, hq]; omega
    subst e
    exact halves_more back m q hq (by omega) (fun r cap X w hr => halves_walk back m q hq (by omega) r cap X w hr) r cap X w hr
theorem isP2_pow {n : Nat} (h : isP2 n = true) : ∃ m, 2 ^ m = n ∧ n ≤ 256 ∧ 0 < n := by
  simp only [isP2, Bool.or_eq_true, beq_iff_eq] at h
  rcases h with (((((((h | h) | h) | h) | h) | h) | h) | h) | h
  · exact ⟨0, by omega, by omega, by omega⟩
  · exact ⟨1, by omega, by omega, by omega⟩
  · exact ⟨2, by omega, by omega, by omega⟩
  · exact ⟨3, by omega, by omega, by omega⟩
  · exact ⟨4, by omega, by omega, by omega⟩
  · exact ⟨5, by omega, by omega, by omega⟩
  · exact ⟨6, by omega, by omega, by omega⟩
  · exact ⟨7, by omega, by omega, by omega⟩
  · exact ⟨8, by omega, by omega, by omega⟩
def fstZ (n m : Nat) (back : Bool) (X : Nat → C2) (k : Nat) : C2 := if back then shr n (fastZ back m X k) else fastZ back m X k
def FastYes (Y : Nat → C2) (n : Nat) (w : World) (e : Ending) (w' : World) : Prop :=
  ∃ g c, e = .returned (.tuple #[.slice (some ⟨g, 0, none⟩) n c, .nilIface]) ∧ CRow w' g n Y ∧ Below w.heap.size w w'
set_option maxRecDepth 100000 in
set_option maxHeartbeats 8000000 in
theorem fast_yes (a : Nat → Addr) (r : Option Addr) (m n cap : Nat) (back : Bool) (X : Nat → C2) (w : World) (hs : Sen a [2, 5] w) (hr : CIn w r n X) (hn : n ≤ 256) (hn0 : 0 < n) (hm : 2 ^ m = n) (h2 : isP2 n = true) :
    Calls Tryd.prog 13 #[.slice r n cap, .bool back] w (FastYes (fstZ n m back X) n w) := by
  have SZ := Lib.hid (show Calls Tryd.prog 31 #[.int .i64 n] w fun e w' => e = .returned .nilIface ∧ w = w' by
    have h := size_walk a n w hs (by omega)
    rwa [show sizeE n = 0 by unfold sizeE; rw [if_neg (by omega), if_neg (by omega)], errV_zero] at h)
  have TW := Lib.hid (show Calls Tryd.prog 32 #[.int .i64 n] w fun e w' => e = .returned (.bool true) ∧ w = w' by
    have h := two_walk n w hn
    rwa [h2] at h)
  have HW := Lib.hid (halves_walk back m n hm hn r cap X w hr)
  clear hs hr h2 hm
  go_enter Tryd.func13, Tryd.ntmps13
  cases back with
  | true =>
    go_wp2_with (first
      | (go_at_call 31; (with_reducible refine SZ.out.mono ?_); rintro e w1 ⟨rfl, rfl⟩)
      | (go_at_call 32; (with_reducible refine TW.out.mono ?_); rintro e w2 ⟨rfl, rfl⟩)
      | (go_at_call 33; (with_reducible refine HW.out.mono ?_); rintro e w3 ⟨g, c, rfl, hg, hr3, hb3⟩; have HG := Lib.hid hg; have R3 := Lib.hid hr3; have B3 := Lib.hid hb3; clear hg hr3 hb3)
      | (go_at_call 34; refine (share_walk g n c _ _ hn R3.out).mono ?_; rintro e w4 ⟨rfl, hr4, hbut⟩; have R4 := Lib.hid hr4; have B4 := Lib.hid hbut; clear hr4 hbut))
    go_ret2
    exact ⟨g, c, rfl, R4.out, B4.out.below B3.out HG.out⟩
  | false =>
    go_wp2_with (first
      | (go_at_call 31; (with_reducible refine SZ.out.mono ?_); rintro e w1 ⟨rfl, rfl⟩)
      | (go_at_call 32; (with_reducible refine TW.out.mono ?_); rintro e w2 ⟨rfl, rfl⟩)
      | (go_at_call 33; (with_reducible refine HW.out.mono ?_); rintro e w3 ⟨g, c, rfl, hg, hr3, hb3⟩; have HG := Lib.hid hg; have R3 := Lib.hid hr3; have B3 := Lib.hid hb3; clear hg hr3 hb3))
    go_ret2
    exact ⟨g, c, rfl, R3.out, B3.out⟩
def fastE (n : Nat) : Nat := if sizeE n = 0 then (if isP2 n then 0 else 5) else sizeE n
set_option maxRecDepth 100000 in
set_option maxHeartbeats 8000000 in
theorem fast_no (a : Nat → Addr) (r : Option Addr) (n cap : Nat) (back : Bool) (w : World) (hs : Sen a [2, 5] w) (hn : n ≤ 9223372036854775807) (hE : fastE n ≠ 0) :
    Calls Tryd.prog 13 #[.slice r n cap, .bool back] w fun e w' => e = .returned (.tuple #[.slice none 0 0, errV a (fastE n)]) ∧ Below w.heap.size w w' := by
  unfold fastE at hE ⊢
  have SZ := Lib.hid (size_walk a n w hs hn)
  by_cases h0 : sizeE n = 0
  · rw [if_pos h0] at hE ⊢
    rw [h0, errV_zero] at SZ
    have hn2 : n ≤ 256 := by unfold sizeE at h0; split at h0 <;> omega
    have h2 : isP2 n = false := by
      cases h : isP2 n with
      | true => rw [h] at hE; simp at hE
      | false => rfl
    rw [h2]
    simp only [Bool.false_eq_true, if_false]
    have TW := Lib.hid (show Calls Tryd.prog 32 #[.int .i64 n] w fun e w' => e = .returned (.bool false) ∧ w = w' by
      have h := two_walk n w hn2
      rwa [h2] at h)
    have c5 := (hs 5 (by decide)).1
    have HE5 := Lib.hid (errV_pos a (show 5 ≠ 0 by decide))
    rw [HE5.out]
    simp only [gOf] at c5
    clear hs hE h2 h0
    go_enter Tryd.func13, Tryd.ntmps13
    go_wp2_with (first
      | (go_at_call 31; (with_reducible refine SZ.out.mono ?_); rintro e w1 ⟨rfl, rfl⟩)
      | (go_at_call 32; (with_reducible refine TW.out.mono ?_); rintro e w2 ⟨rfl, rfl⟩))
    go_quiet (fail)
    go_wp2
    go_ret2
    exact ⟨rfl, (by (repeat (with_reducible first | exact grow_refl _ | refine Grow.grow_drewN ?_ _ | refine Grow.grow_drew ?_)))⟩
  · rw [if_neg h0]
    obtain ⟨u, hu⟩ := errV_pos2 a h0
    rw [hu] at SZ ⊢
    clear hs hE hu h0
    go_enter Tryd.func13, Tryd.ntmps13
    go_wp2_with (go_at_call 31; (with_reducible refine SZ.out.mono ?_); rintro e w1 ⟨rfl, rfl⟩)
    go_ret2
    exact ⟨rfl, grow_refl _⟩
end Go.Proofs.YtaakbajhbmbhcaaDoor
/- Waves by halves, the document's: rows of pairs that are free to be written; a row of one. -/
set_option linter.unusedSimpArgs false
set_option linter.unusedVariables false
namespace Go.Proofs.YtaakbajhbmbhcaaDoor
open Go.RowKit Go.Fl Go.Grow Go.Tr

/-- The pairs X lie in w. -/
def PIn (w : World) (r : Option Addr) (n : Nat) (X : Nat → C2) : Prop := n = 0 ∨ ∃ b o, r = some ⟨b, o, none⟩ ∧ ∀ k, k < n → ∃ p q, w.cell? ⟨b, o + k * 2, none⟩ = some (.float .f64 p) ∧ w.cell? ⟨b, o + k * 2 + 1, none⟩ = some (.float .f64 q) ∧ fl p = (X k).re ∧ fl q = (X k).im
theorem PIn.below {w w' : World} {r : Option Addr} {n : Nat} {X : Nat → C2} (h : PIn w r n X) (hb : Below w.heap.size w w') : PIn w' r n X := by
  rcases h with h | ⟨b, o, rfl, hc⟩
  · exact .inl h
  · refine .inr ⟨b, o, rfl, fun k hk => ?_⟩
    obtain ⟨p, q, h0, h1, h2⟩ := hc k hk
    have hl : b < w.heap.size := lt_of_cell h0
    exact ⟨p, q, (hb.cell (p := ⟨b, o + k * 2, none⟩) hl).trans h0, (hb.cell (p := ⟨b, o + k * 2 + 1, none⟩) hl).trans h1, h2⟩
/-- The pairs X lie in block g, which is free to be written. -/
structure PRow (w : World) (g n : Nat) (X : Nat → C2) : Prop where
  lt : g < w.heap.size
  frozen : ∀ i, w.frozen? ⟨g, i, none⟩ = false
  cell : ∀ k, k < n → ∃ a b, w.cell? ⟨g, k * 2, none⟩ = some (.float .f64 a) ∧ w.cell? ⟨g, k * 2 + 1, none⟩ = some (.float .f64 b) ∧ fl a = (X k).re ∧ fl b = (X k).im
theorem PRow.below {w w' : World} {g n : Nat} {X : Nat → C2} (h : PRow w g n X) (hb : Below w.heap.size w w') : PRow w' g n X :=
  ⟨Nat.lt_of_lt_of_le h.lt hb.size, fun i => (hb.frozen (p := ⟨g, i, none⟩) h.lt).trans (h.frozen i), fun k hk => by
    obtain ⟨a, b, h0, h1, h2, h3⟩ := h.cell k hk
    exact ⟨a, b, (hb.cell (p := ⟨g, k * 2, none⟩) h.lt).trans h0, (hb.cell (p := ⟨g, k * 2 + 1, none⟩) h.lt).trans h1, h2, h3⟩⟩
theorem PRow.but {w w' : World} {g g2 n : Nat} {X : Nat → C2} (h : PRow w g n X) (hb : But g2 w w') (hne : g ≠ g2) : PRow w' g n X :=
  ⟨Nat.lt_of_lt_of_le h.lt hb.size, fun i => by rw [← h.frozen i]; unfold World.frozen?; rw [hb.block g h.lt hne], fun k hk => by
    obtain ⟨a, b, h0, h1, h2, h3⟩ := h.cell k hk
    exact ⟨a, b, (cell?_but hb (p := ⟨g, k * 2, none⟩) h.lt hne).trans h0, (cell?_but hb (p := ⟨g, k * 2 + 1, none⟩) h.lt hne).trans h1, h2, h3⟩⟩
theorem PRow.at {w : World} {g n : Nat} {X Y : Nat → C2} (h : PRow w g n X) (e : ∀ k, k < n → X k = Y k) : PRow w g n Y := ⟨h.lt, h.frozen, fun k hk => e k hk ▸ h.cell k hk⟩
theorem PRow.in {w : World} {g n : Nat} {X : Nat → C2} (h : PRow w g n X) : PIn w (some ⟨g, 0, none⟩) n X := .inr ⟨g, 0, rfl, fun k hk => by rw [Nat.zero_add]; exact h.cell k hk⟩
theorem PRow.set {w : World} {g n : Nat} {X : Nat → C2} (h : PRow w g n X) {i : Nat} (hi : i < n) (x : C2) {a b : Nat} (ha : fl a = x.re) (hb : fl b = x.im) : PRow ((w.setCell ⟨g, i * 2, none⟩ (.float .f64 a)).setCell ⟨g, i * 2 + 1, none⟩ (.float .f64 b)) g n (updC X i x) := by
  obtain ⟨a0, b0, h0, h1, _, _⟩ := h.cell i hi
  refine ⟨by simpa using h.lt, fun j => by rw [frozen?_setCell, frozen?_setCell]; exact h.frozen j, fun k hk => ?_⟩
  simp only [cell?_put]
  unfold updC
  by_cases e : k = i
  · subst e
    refine ⟨a, b, ?_, ?_, by simpa using ha, by simpa using hb⟩
    · have n1 : ¬ (k * 2 + 1 = k * 2) := by omega
      simp [n1, h0]
    · have n1 : ¬ (k * 2 = k * 2 + 1) := by omega
      simp [n1, h1]
  · obtain ⟨a1, b1, g0, g1, g2, g3⟩ := h.cell k hk
    refine ⟨a1, b1, ?_, ?_, by simpa [e] using g2, by simpa [e] using g3⟩
    · have n1 : ¬ (i * 2 + 1 = k * 2) := by omega
      have n2 : ¬ (i * 2 = k * 2) := by omega
      rw [if_neg (fun h => n1 h.2), if_neg (fun h => n2 h.2)]; exact g0
    · have n1 : ¬ (i * 2 + 1 = k * 2 + 1) := by omega
      have n2 : ¬ (i * 2 = k * 2 + 1) := by omega
      rw [if_neg (fun h => n1 h.2), if_neg (fun h => n2 h.2)]; exact g1
theorem madeCells_two (n k : Nat) (h : k < n) : (madeCells #[.float .f64 0, .float .f64 0] (n * 2))[k * 2]? = some (.float .f64 0) ∧ (madeCells #[.float .f64 0, .float .f64 0] (n * 2))[k * 2 + 1]? = some (.float .f64 0) := by
  unfold madeCells
  constructor
  · rw [Array.getElem?_map, Array.getElem?_range, if_pos (by omega)]
    simp
  · rw [Array.getElem?_map, Array.getElem?_range, if_pos (by omega)]
    simp
theorem PRow.made (w : World) (n : Nat) (t : TypeId) : PRow (w.alloc (.cells (madeCells #[.float .f64 0, .float .f64 0] (n * 2)) t)) w.heap.size n (fun _ => ⟨some 0, some 0⟩) := by
  have K := Known.new w (madeCells #[.float .f64 0, .float .f64 0] (n * 2)) t
  refine ⟨K.lt, K.frozen, fun k hk => ⟨0, 0, ?_, ?_, fl_zero, fl_zero⟩⟩
  · rw [K.cell]; exact (madeCells_two n k hk).1
  · rw [K.cell]; exact (madeCells_two n k hk).2
theorem mk_pr (n : Nat) (hn : n ≤ 100000) (W : World) :
    (Instr.makeSlice 22 (.int .i64 (n : Int)) (.int .i64 (n : Int))).run Tryd.prog W = .ok (.slice (some ⟨W.heap.size, 0, none⟩) n n) (W.alloc (.cells (madeCells #[.float .f64 0, .float .f64 0] (n * 2)) 28)) := by
  obtain ⟨i0, hi, hz0, hz1, hz2⟩ := info_parts info_pr
  have hr := run_make (P := Tryd.prog) W 22 28 i0 (.agg #[.float .f64 0, .float .f64 0]) Tryd.underlying22 hi hz0 .i64 .i64 n n (by omega) (Int.le_refl _) (by rw [hz2]; omega) (by omega)
  simp only [Int.toNat_natCast, hz1] at hr
  exact hr
def HalvD (n : Nat) (Y : Nat → C2) (w : World) (e : Ending) (w' : World) : Prop :=
  ∃ g c, e = .returned (.slice (some ⟨g, 0, none⟩) n c) ∧ w.heap.size ≤ g ∧ PRow w' g n Y ∧ Below w.heap.size w w'
set_option maxRecDepth 100000 in
set_option maxHeartbeats 4000000 in
theorem halvD_one (back : Bool) (r : Option Addr) (N f s cap : Nat) (X : Nat → C2) (w : World) (hN : N ≤ 256) (hs : N / s = 1) (hs2 : s ≤ 256) (hf : f < N) (hr : PIn w r N X) :
    Calls Tryd.prog 47 #[.slice r N cap, .int .i64 f, .int .i64 s, .bool back] w (HalvD 1 (fun _ => X f) w) := by
  have hs0 : 0 < s := by
    rcases Nat.eq_zero_or_pos s with h | h
    · rw [h, Nat.div_zero] at hs; cases hs
    · exact h
  obtain ⟨b1, o1, rfl, hc⟩ := hr.resolve_left (by omega)
  obtain ⟨p, q, c0, c1, h1, h2⟩ := hc f hf
  have hb1 : b1 < w.heap.size := lt_of_cell c0
  have H1 := Lib.hid h1
  have H2 := Lib.hid h2
  have e0 : (N : Int).tdiv (s : Int) = 1 := by
    rw [Int.tdiv_eq_ediv_of_nonneg (by omega), ← Int.natCast_ediv, hs]; rfl
  have n0 : ¬ ((s : Int) = 0) := by omega
  have i0 : (0 : Int) ≤ (f : Int) := by omega
  have i1 : (f : Int) < (N : Int) := by omega
  clear hr hc h1 h2 hs
  go_enter Tryd.func47, Tryd.ntmps47
  go_wp2
  go_ret
  have K := Known.new w #[Value.float .f64 p, .float .f64 q] 28
  refine ⟨_, _, rfl, Nat.le_refl _, ⟨K.lt, K.frozen, fun k hk => ?_⟩, grow_alloc (grow_refl w) _⟩
  obtain rfl : k = 0 := by omega
  exact ⟨p, q, K.cell 0, K.cell 1, H1.out, H2.out⟩
end Go.Proofs.YtaakbajhbmbhcaaDoor
