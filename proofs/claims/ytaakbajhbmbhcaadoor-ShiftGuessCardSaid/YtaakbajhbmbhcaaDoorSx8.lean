/- ShiftCross: the law's walk, beyond what is skipped. -/
import Derived.Test.YtaakbajhbmbhcaaDoorSx7
set_option linter.unusedSimpArgs false
set_option linter.unusedVariables false
namespace Go.Proofs.YtaakbajhbmbhcaaDoor
open Go.RowKit Go.Grow

def Fewer (n m : Nat) : Prop := (n ≤ 60 ∨ 256 < n) ∧ (m ≤ 60 ∨ 256 < m) ∧ n ≤ 300 ∧ m ≤ 300
set_option maxRecDepth 100000 in
set_option maxHeartbeats 8000000 in
theorem cross_err (a : Nat → Addr) (r1 r2 : Option Addr) (n m cap1 cap2 : Nat) (s : Int) (x y : Nat → Int) (w : World) (hs : Sen a allK w) (hh : Hand w) (hne : ∀ j ∈ allK, ∀ k ∈ allK, j ≠ k → a j ≠ a k) (h1 : IntsAt w r1 n x) (h2 : IntsAt w r2 m y)
    (hf1 : n ≤ 60 ∨ 256 < n) (hf2 : m ≤ 60 ∨ 256 < m) (hf3 : n ≤ 300) (hf4 : m ≤ 300) (hE : rowsE n m x y ≠ 0) :
    Calls Tryd.prog 5 #[.slice r1 n cap1, .slice r2 m cap2, .int .i64 s] w fun e w' => e = .returned (.bool true) ∧ Below w.heap.size w w' := by
  have hs2 : Sen a [2, 5] w := hs.sub (by decide)
  have BF := Lib.hid (first_best a w hs2)
  unfold W2 at BF
  have hE10 : rowsE n m x y ≤ 10 := by unfold rowsE; split <;> (try split) <;> (try split) <;> omega
  have CX := Lib.hid (fun X (hX : Below w.heap.size w X) => cross_no a r1 r2 n m cap1 cap2 x y X (by omega) (by omega) (hs2.below hX) (h1.below hX) (h2.below hX) hE)
  have BX := Lib.hid (fun X (hX : Below w.heap.size w X) => best_no a r1 r2 n m cap1 cap2 x y X (by omega) (by omega) (hs2.below hX) (h1.below hX) (h2.below hX) hE)
  have PX := Lib.hid (fun X (hX : Below w.heap.size w X) => proved_no a r1 r2 n m cap1 cap2 s x y X (by omega) (by omega) (hs2.below hX) (h1.below hX) (h2.below hX) hE)
  have RX := Lib.hid (fun X (hX : Below w.heap.size w X) => rowsError_walk r1 r2 n m cap1 cap2 x y X (by omega) (by omega) (h1.below hX) (h2.below hX))
  have CD := Lib.hid (fun X (hX : Below w.heap.size w X) => coded_same a (rowsE n m x y) hE10 X (hs.below hX) (hh.below hX) hne)
  obtain ⟨u, hu⟩ := errV_pos2 a hE
  rw [hu] at CX BX PX CD
  clear hu hs hh hne h1 h2 hs2
  generalize rowsE n m x y = E at *
  have hE0 : 0 < E := by omega
  clear hE
  go_enter Tryd.func5, Tryd.ntmps5
  have s0 := trivial
  go_wp2_with (first
    | (clear s0; go_at_call 20; (with_reducible refine BF.out.mono ?_); rintro e w1 ⟨rfl, hb⟩; have HB := Lib.hid hb; clear hb BF)
    | (go_at_call 21; (with_reducible refine (CX.out _ HB.out).mono ?_); rintro e w2 ⟨rfl, hb⟩; have HB2 := Lib.hid (grow_trans HB.out hb); clear hb HB; have s1 := trivial)
    | (clear s1; go_at_call 20; (with_reducible refine (BX.out _ HB2.out).mono ?_); rintro e w3 ⟨rfl, hb⟩; have HB3 := Lib.hid (grow_trans HB2.out hb); clear hb HB2)
    | (go_at_call 22; (with_reducible refine (PX.out _ HB3.out).mono ?_); rintro e w4 ⟨rfl, hb⟩; have HB4 := Lib.hid (grow_trans HB3.out hb); clear hb HB3)
    | (go_at_call 23; (with_reducible refine (RX.out _ HB4.out).mono ?_); rintro e w5 ⟨rfl, rfl⟩; have s2 := trivial)
    | (clear s2; go_at_call 18; (with_reducible refine (CD.out _ HB4.out).mono ?_); rintro e w6 ⟨rfl, hb⟩; have HB6 := Lib.hid (grow_trans HB4.out hb); clear hb HB4; have s3 := trivial)
    | (clear s3; go_at_call 18; (with_reducible refine (CD.out _ HB6.out).mono ?_); rintro e w7 ⟨rfl, hb⟩; have HB7 := Lib.hid (grow_trans HB6.out hb); clear hb HB6; have s4 := trivial)
    | (clear s4; go_at_call 18; (with_reducible refine (CD.out _ HB7.out).mono ?_); rintro e w8 ⟨rfl, hb⟩; have HB8 := Lib.hid (grow_trans HB7.out hb); clear hb HB7))
  all_goals
    go_ret
    exact ⟨rfl, HB8.out⟩
theorem quiet_more {P : Program} {f : FuncId} {args : Array Value} {w : World} {a n : Nat} {v : Value}
    (h : Calls P f args (w.drewN (a + n)) fun e w' => e = .returned v ∧ ∃ m, w' = (w.drewN (a + n)).drewN m) :
    Calls P f args (w.drewN (a + n)) fun e w'' => e = .returned v ∧ ∃ m, w'' = w.drewN (a + m) :=
  h.mono fun _ _ ⟨he, m, hm⟩ => ⟨he, n + m, by rw [hm, World.drewN_drewN, Nat.add_assoc]⟩
def bestN (z : Nat → Int) (i : Nat) : Nat := if i = 0 then 0 else bestUp z (i - 1)
theorem bestN_next (z : Nat → Int) (i : Nat) : bestN z (i + 1) = if z (bestN z i) < z i then i else bestN z i := by
  unfold bestN
  rw [if_neg (Nat.succ_ne_zero i), Nat.add_sub_cancel]
  cases i with
  | zero => simp [bestUp]
  | succ k =>
    simp only [Nat.add_sub_cancel, Nat.succ_ne_zero, if_false]
    rfl
theorem bestN_le (z : Nat → Int) (i n : Nat) (h : i ≤ n + 1) : bestN z i ≤ n := by
  unfold bestN
  split
  · omega
  · have := bestUp_le z (i - 1); omega
set_option maxRecDepth 100000 in
set_option maxHeartbeats 16000000 in
theorem cross_main (a : Nat → Addr) (r1 r2 : Option Addr) (n cap1 cap2 : Nat) (s : Int) (x y : Nat → Int) (w : World) (hs : Sen a allK w) (hh : Hand w) (hne : ∀ j ∈ allK, ∀ k ∈ allK, j ≠ k → a j ≠ a k) (h1 : IntsAt w r1 (n + 1) x) (h2 : IntsAt w r2 (n + 1) y)
    (hn : n + 1 ≤ 60) (hE : rowsE (n + 1) (n + 1) x y = 0) :
    Calls Tryd.prog 5 #[.slice r1 (n + 1) cap1, .slice r2 (n + 1) cap2, .int .i64 s] w fun e w' => e = .returned (.bool true) ∧ Below w.heap.size w w' := by
  have hs2 : Sen a [2, 5] w := hs.sub (by decide)
  have BF := Lib.hid (first_best a w hs2)
  unfold W2 at BF
  have CX := Lib.hid (fun X (hX : Below w.heap.size w X) => cross_yes a r1 r2 (n + 1) cap1 cap2 x y X (hs2.below hX) (h1.below hX) (h2.below hX) hE (by omega) (by omega))
  have BX := Lib.hid (fun X (hX : Below w.heap.size w X) => best_yes a r1 r2 n cap1 cap2 x y X (hs2.below hX) (h1.below hX) (h2.below hX) hE)
  have PX := Lib.hid (fun X (hX : Below w.heap.size w X) => proved_yes a r1 r2 n cap1 cap2 s x y X (hs2.below hX) (h1.below hX) (h2.below hX) hE)
  have RX := Lib.hid (fun X (hX : Below w.heap.size w X) => rowsError_walk r1 r2 (n + 1) (n + 1) cap1 cap2 x y X (by omega) (by omega) (h1.below hX) (h2.below hX))
  have CD := Lib.hid (fun X (hX : Below w.heap.size w X) => show Calls Tryd.prog 18 #[.nilIface, .int .i64 0] X fun e w' => e = .returned (.bool true) ∧ Below X.heap.size X w' from coded_same a 0 (by omega) X (hs.below hX) (hh.below hX) hne)
  have AX := Lib.hid (fun X (hX : Below w.heap.size w X) i (hi : i < n + 1) => crossAt_walk r1 r2 (n + 1) cap1 cap2 i x y X (by omega) hi (h1.below hX) (h2.below hX))
  rw [hE] at RX
  unfold CrossYes at CX
  clear hs hh hne h1 h2 hs2 hE
  generalize crossZ x y (n + 1) = z at *
  go_enter Tryd.func5, Tryd.ntmps5
  have s0 := trivial
  go_wp2_with (first
    | (clear s0; go_at_call 20; (with_reducible refine BF.out.mono ?_); rintro e w1 ⟨rfl, hb⟩; have HB := Lib.hid hb; clear hb BF)
    | (go_at_call 21; (with_reducible refine (CX.out _ HB.out).mono ?_); rintro e w2 ⟨g, rfl, _, hr, hb⟩; have R2 := Lib.hid hr; have HB2 := Lib.hid (grow_trans HB.out hb); clear hb hr HB; have s1 := trivial)
    | (clear s1; go_at_call 20; (with_reducible refine (BX.out _ HB2.out).mono ?_); rintro e w3 ⟨rfl, hb⟩; have R3 := Lib.hid (R2.out.below hb); have HB3 := Lib.hid (grow_trans HB2.out hb); clear hb HB2 R2)
    | (go_at_call 22; (with_reducible refine (PX.out _ HB3.out).mono ?_); rintro e w4 ⟨rfl, hb⟩; have R4 := Lib.hid (R3.out.below hb); have HB4 := Lib.hid (grow_trans HB3.out hb); clear hb HB3 R3)
    | (go_at_call 23; (with_reducible refine (RX.out _ HB4.out).mono ?_); rintro e w5 ⟨rfl, rfl⟩; have s2 := trivial)
    | (clear s2; go_at_call 18; (with_reducible refine (CD.out _ HB4.out).mono ?_); rintro e w6 ⟨rfl, hb⟩; have R6 := Lib.hid (R4.out.below hb); have HB6 := Lib.hid (grow_trans HB4.out hb); clear hb HB4 R4; have s3 := trivial)
    | (clear s3; go_at_call 18; (with_reducible refine (CD.out _ HB6.out).mono ?_); rintro e w7 ⟨rfl, hb⟩; have R7 := Lib.hid (R6.out.below hb); have HB7 := Lib.hid (grow_trans HB6.out hb); clear hb HB6 R6; have s4 := trivial)
    | (clear s4; go_at_call 18; (with_reducible refine (CD.out _ HB7.out).mono ?_); rintro e w8 ⟨rfl, hb⟩; have R8 := Lib.hid (R7.out.below hb); have HB8 := Lib.hid (grow_trans HB7.out hb); clear hb HB7 R7))
  go_loopw [19, 20] (fun v19 v20 wr => ∃ i q : Nat, i ≤ n + 1 ∧ v20 = .int .i64 i ∧ v19 = .int .i64 (bestN z i) ∧ wr = w8.drewN q) (fun _ i _ => n + 1 - (intOf i).toNat)
  case atStart => exact ⟨0, 0, Nat.zero_le _, rfl, rfl, rfl⟩
  case round =>
    obtain ⟨i, q, hi, rfl, rfl, rfl⟩ := hrel
    by_cases hlt : i < n + 1
    · have c1 := R8.out.cell i hlt
      have hbl := bestN_le z i n (by omega)
      have c2 := R8.out.cell (bestN z i) (by omega)
      have HN := Lib.hid (bestN_next z i)
      have AI := Lib.hid (fun k => AX.out (w8.drewN (q + k)) (grow_drewN HB8.out _) i hlt)
      generalize bestN z i = p at *
      generalize z i = u at *
      generalize z p = v at *
      have hj0 : (0 : Int) ≤ (i : Int) := by omega
      have hj1 : (i : Int) < (n : Int) + 1 := by omega
      have hp0 : (0 : Int) ≤ (p : Int) := by omega
      have hp1 : (p : Int) < (n : Int) + 1 := by omega
      go_wp2
      go_quiet ((go_at_call 24; exact quiet_more (AI.out _)))
      go_wp2
      go_quiet (fail)
      by_cases hvu : v < u
      · go_wp2
        go_roundw
        case rel => exact ⟨i + 1, _, by omega, by go_num, by rw [HN.out, if_pos hvu], rfl⟩
        case measure => simp [intOf]; omega
      · go_wp2
        go_roundw
        case rel => exact ⟨i + 1, _, by omega, by go_num, by rw [HN.out, if_neg hvu], rfl⟩
        case measure => simp [intOf]; omega
    · obtain rfl : i = n + 1 := by omega
      have EB := Lib.hid (show bestN z (n + 1) = bestUp z n by unfold bestN; rw [if_neg (Nat.succ_ne_zero n), Nat.add_sub_cancel])
      rw [EB.out]
      have hbl := bestUp_le z n
      have c2 := R8.out.cell (bestUp z n) (by omega)
      rw [maxUp_best z n] at c2
      have hp0 : (0 : Int) ≤ (bestUp z n : Int) := by omega
      have hp1 : (bestUp z n : Int) < (n : Int) + 1 := by omega
      clear EB
      rcases Int.lt_or_le s 0 with hs0 | hs0
      · have d0 : decide (0 ≤ s) = false := decide_eq_false (by omega)
        have E := Lib.hid (show bestB z n s = false by unfold bestB; rw [d0]; rfl)
        rw [E.out]
        clear E
        generalize bestUp z n = p at *
        generalize maxUp z n = v at *
        go_wp2
        go_quiet (fail)
        go_wp2
        go_ret
        exact ⟨rfl, grow_drewN HB8.out _⟩
      · obtain ⟨j, rfl⟩ : ∃ j : Nat, (j : Int) = s := ⟨s.toNat, by omega⟩
        have d0 : decide ((0 : Int) ≤ (j : Int)) = true := decide_eq_true (by omega)
        rcases Nat.lt_or_ge n j with hs1 | hs1
        · have d1 : decide ((j : Int) ≤ (n : Int)) = false := decide_eq_false (by omega)
          have d2 : decide ((j : Int) < (n : Int) + 1) = false := decide_eq_false (by omega)
          have E := Lib.hid (show bestB z n j = false by unfold bestB; rw [d1]; simp)
          rw [E.out]
          clear d1 E
          generalize bestUp z n = p at *
          generalize maxUp z n = v at *
          go_wp2
          go_quiet (fail)
          go_wp2
          go_ret
          exact ⟨rfl, grow_drewN HB8.out _⟩
        · have d2 : decide ((j : Int) < (n : Int) + 1) = true := decide_eq_true (by omega)
          have hi0 : (0 : Int) ≤ (j : Int) := by omega
          have hi1 : (j : Int) < (n : Int) + 1 := by omega
          have E := Lib.hid (show bestB z n j = (z j == maxUp z n) by
            unfold bestB; rw [d0, decide_eq_true (show (j : Int) ≤ (n : Int) by omega)]; rw [Bool.eq_iff_iff]; simp)
          rw [E.out]
          clear E
          have c3 := R8.out.cell j (by omega)
          generalize bestUp z n = p at *
          generalize maxUp z n = v at *
          generalize z j = u at *
          go_wp2
          go_quiet (fail)
          go_wp2
          go_ret
          exact ⟨by simp, grow_drewN HB8.out _⟩
end Go.Proofs.YtaakbajhbmbhcaaDoor
