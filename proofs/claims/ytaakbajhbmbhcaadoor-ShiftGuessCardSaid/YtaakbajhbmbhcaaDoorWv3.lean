/- Waves: a row of the call's own; the share of all; lengths. -/
import Derived.Test.YtaakbajhbmbhcaaDoorWv2
import Derived.Test.YtaakbajhbmbhcaaDoorCs5
set_option linter.unusedSimpArgs false
set_option linter.unusedVariables false
namespace Go.Proofs.YtaakbajhbmbhcaaDoor
open Go.RowKit Go.Fl Go.Grow Go.Tr

/-- The numbers X lie in block g, which is free to be written. -/
structure CRow (w : World) (g n : Nat) (X : Nat → C2) : Prop where
  lt : g < w.heap.size
  frozen : ∀ i, w.frozen? ⟨g, i, none⟩ = false
  cell : ∀ k, k < n → ∃ a b, w.cell? ⟨g, k, none⟩ = some (.complex .f64 a b) ∧ fl a = (X k).re ∧ fl b = (X k).im
theorem CRow.below {w w' : World} {g n : Nat} {X : Nat → C2} (h : CRow w g n X) (hb : Below w.heap.size w w') : CRow w' g n X :=
  ⟨Nat.lt_of_lt_of_le h.lt hb.size, fun i => (hb.frozen (p := ⟨g, i, none⟩) h.lt).trans (h.frozen i), fun k hk => by
    obtain ⟨a, b, h1, h2, h3⟩ := h.cell k hk
    exact ⟨a, b, (hb.cell (p := ⟨g, k, none⟩) h.lt).trans h1, h2, h3⟩⟩
theorem CRow.at {w : World} {g n : Nat} {X Y : Nat → C2} (h : CRow w g n X) (e : ∀ k, k < n → X k = Y k) : CRow w g n Y := ⟨h.lt, h.frozen, fun k hk => e k hk ▸ h.cell k hk⟩
def updC (X : Nat → C2) (i : Nat) (x : C2) : Nat → C2 := fun j => if j = i then x else X j
theorem CRow.set {w : World} {g n : Nat} {X : Nat → C2} (h : CRow w g n X) {i : Nat} (hi : i < n) (x : C2) {a b : Nat} (ha : fl a = x.re) (hb : fl b = x.im) : CRow (w.setCell ⟨g, i, none⟩ (.complex .f64 a b)) g n (updC X i x) := by
  obtain ⟨a0, b0, h0, _, _⟩ := h.cell i hi
  refine ⟨by simpa using h.lt, fun j => by rw [frozen?_setCell]; exact h.frozen j, fun k hk => ?_⟩
  rw [cell?_put, h0]
  unfold updC
  by_cases e : k = i
  · subst e; exact ⟨a, b, by simp, by simpa using ha, by simpa using hb⟩
  · obtain ⟨a1, b1, h1, h2, h3⟩ := h.cell k hk
    rw [if_neg (fun h => e h.2.symm), if_neg e]
    exact ⟨a1, b1, h1, h2, h3⟩
theorem CRow.made (w : World) (n : Nat) (t : TypeId) : CRow (w.alloc (.cells (madeCells #[.complex .f64 0 0] n) t)) w.heap.size n (fun _ => ⟨some 0, some 0⟩) := by
  have K := Known.new w (madeCells #[.complex .f64 0 0] n) t
  refine ⟨K.lt, K.frozen, fun k hk => ⟨0, 0, ?_, fl_zero, fl_zero⟩⟩
  rw [K.cell k, ← Array.getElem?_toList, toList_madeCells_one]
  simp [hk]
theorem mk_cx (n : Nat) (hn : n ≤ 100000) (W : World) :
    (Instr.makeSlice 30 (.int .i64 (n : Int)) (.int .i64 (n : Int))).run Tryd.prog W = .ok (.slice (some ⟨W.heap.size, 0, none⟩) n n) (W.alloc (.cells (madeCells #[.complex .f64 0 0] n) 36)) := by
  obtain ⟨i0, hi, hz0, hz1, hz2⟩ := info_parts info_cx
  have hr := run_make (P := Tryd.prog) W 30 36 i0 (.complex .f64 0 0) Tryd.underlying30 hi hz0 .i64 .i64 n n (by omega) (Int.le_refl _) (by rw [hz2]; omega) (by omega)
  simp only [Int.toNat_natCast, hz1, Nat.mul_one] at hr
  exact hr
def sizeE (n : Nat) : Nat := if 256 < n then 2 else if n = 0 then 5 else 0
set_option maxRecDepth 100000 in
set_option maxHeartbeats 4000000 in
theorem size_walk (a : Nat → Addr) (n : Nat) (w : World) (hs : Sen a [2, 5] w) (hn : n ≤ 9223372036854775807) : Calls Tryd.prog 31 #[.int .i64 n] w fun e w' => e = .returned (errV a (sizeE n)) ∧ w = w' := by
  have HE2 := Lib.hid (errV_pos a (show 2 ≠ 0 by decide))
  have HE5 := Lib.hid (errV_pos a (show 5 ≠ 0 by decide))
  have c2 := (hs 2 (by decide)).1
  have c5 := (hs 5 (by decide)).1
  simp only [gOf] at c2 c5
  clear hs
  unfold sizeE
  by_cases h1 : 256 < n
  · rw [if_pos h1, HE2.out]
    go_enter Tryd.func31, Tryd.ntmps31
    go_wp2
    go_ret
    exact ⟨rfl, rfl⟩
  · rw [if_neg h1]
    by_cases h2 : n = 0
    · subst h2
      rw [if_pos rfl, HE5.out]
      go_enter Tryd.func31, Tryd.ntmps31
      go_wp2
      go_ret
      exact ⟨rfl, rfl⟩
    · rw [if_neg h2, errV_zero]
      have d0 : ((n : Int) == 0) = false := by simp; omega
      clear h2
      go_enter Tryd.func31, Tryd.ntmps31
      go_wp2
      go_ret
      exact ⟨rfl, rfl⟩
set_option maxRecDepth 100000 in
set_option maxHeartbeats 4000000 in
theorem lengthError_walk (n : Nat) (w : World) (hn : n ≤ 9223372036854775807) : Calls Tryd.prog 25 #[.int .i64 n] w fun e w' => e = .returned (.int .i64 (sizeE n : Nat)) ∧ w = w' := by
  unfold sizeE
  by_cases h1 : 256 < n
  · rw [if_pos h1]
    go_enter Tryd.func25, Tryd.ntmps25
    go_wp2
    go_ret
    exact ⟨rfl, rfl⟩
  · rw [if_neg h1]
    by_cases h2 : n = 0
    · subst h2
      rw [if_pos rfl]
      go_enter Tryd.func25, Tryd.ntmps25
      go_wp2
      go_ret
      exact ⟨rfl, rfl⟩
    · rw [if_neg h2]
      have d0 : ¬ ((n : Int) < 1) := by omega
      clear h2
      go_enter Tryd.func25, Tryd.ntmps25
      go_wp2
      go_ret
      exact ⟨rfl, rfl⟩
/-- A share of n. -/
def nF (n : Nat) : Nat := floatOfInt .f64 (n : Int)
def shr (n : Nat) (x : C2) : C2 := ⟨fdiv x.re (fl (nF n)), fdiv x.im (fl (nF n))⟩
set_option maxRecDepth 100000 in
set_option maxHeartbeats 4000000 in
theorem share_walk (g n cap : Nat) (X : Nat → C2) (w : World) (hn : n ≤ 256) (hr : CRow w g n X) :
    Calls Tryd.prog 34 #[.slice (some ⟨g, 0, none⟩) n cap] w fun e w' => e = .returned (.tuple #[]) ∧ CRow w' g n (fun k => shr n (X k)) ∧ But g w w' := by
  have R0 := Lib.hid hr
  clear hr
  go_enter Tryd.func34, Tryd.ntmps34
  go_wp2
  obtain ⟨q, hq⟩ : ∃ q, nF n = q := ⟨_, rfl⟩
  have HQ := Lib.hid hq
  unfold nF at hq
  rw [hq]
  clear hq
  go_loopw [10] (fun v10 wr => ∃ k : Nat, k ≤ n ∧ v10 = .int .i64 k ∧ CRow wr g n (fun j => if j < k then shr n (X j) else X j) ∧ But g w wr) (fun i _ => n - (intOf i).toNat)
  case atStart => exact ⟨0, Nat.zero_le _, rfl, R0.out.at fun k hk => by simp, But.refl _ _⟩
  case round =>
    clear R0
    obtain ⟨k, hk, rfl, hrow, hb⟩ := hrel
    have R := Lib.hid hrow
    have B := Lib.hid hb
    clear hrow hb
    by_cases hlt : k < n
    · obtain ⟨a, b, c0, h1, h2⟩ := R.out.cell k hlt
      rw [if_neg (Nat.lt_irrefl k)] at h1 h2
      have H1 := Lib.hid h1
      have H2 := Lib.hid h2
      clear h1 h2
      have f0 := R.out.frozen k
      have l0 := R.out.lt
      have s0 := trivial
      go_wp2_with (first
        | (clear s0; refine wpList_arith rfl rfl (by rfl) rfl rfl ?_; intro b1 n1 A1; have s1 := trivial)
        | (clear s1; refine wpList_arith rfl rfl (by rfl) rfl rfl ?_; intro b2 n2 A2))
      go_roundw
      case rel =>
        have key := R.out.set hlt (shr n (X k)) (a := b1) (b := b2) (by rw [A1.out, H1.out]; unfold shr; rw [HQ.out]; rfl) (by rw [A2.out, H2.out]; unfold shr; rw [HQ.out]; rfl)
        exact ⟨k + 1, by omega, by go_num, (key.at fun j hj => by
          unfold updC
          by_cases e : j = k
          · subst e; simp
          · rw [if_neg e]
            show (if j < k then shr n (X j) else X j) = _
            by_cases e2 : j < k
            · simp [e2, Nat.lt_succ_of_lt e2]
            · rw [if_neg e2, if_neg (by omega)]).below (grow_drewN (grow_refl _) _), (B.out.setCell _ _).drewN _⟩
      case measure => simp [intOf]; omega
    · obtain rfl : k = n := by omega
      go_wp2
      go_end0
      exact ⟨rfl, R.out.at fun j hj => by simp [hj], B.out⟩
end Go.Proofs.YtaakbajhbmbhcaaDoor
