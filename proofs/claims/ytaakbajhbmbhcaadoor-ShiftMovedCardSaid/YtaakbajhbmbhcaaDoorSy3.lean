/- How two pictures go together at a shift: plain, the program's, the document's. -/
import Derived.Test.YtaakbajhbmbhcaaDoorSy2
set_option linter.unusedSimpArgs false
set_option linter.unusedVariables false
namespace Go.Proofs.YtaakbajhbmbhcaaDoor
open Go.RowKit Go.Grow

/-- A picture that is right: its sides. -/
structure Fine (p : Pic) (W H : Nat) : Prop where
  w : p.W = W
  h : p.H = H
  w1 : 1 ≤ W
  w2 : W ≤ 256
  h1 : 1 ≤ H
  h2 : H ≤ 256
  n : p.n = H * W
theorem fine_of {p : Pic} (h : picE p = 0) : ∃ W H, Fine p W H := by
  unfold picE at h
  split at h
  · cases h
  · split at h
    · cases h
    · rename_i h1 h2
      refine ⟨p.W.toNat, p.H.toNat, by omega, by omega, by omega, by omega, by omega, by omega, ?_⟩
      have h3 : (p.n : Int) = p.W * p.H := by omega
      have e1 : p.W = (p.W.toNat : Int) := by omega
      have e2 : p.H = (p.H.toNat : Int) := by omega
      rw [e1, e2, ← Int.natCast_mul] at h3
      rw [Nat.mul_comm]
      exact Int.ofNat.inj h3
/-- What a place adds to the sum. -/
def togStep (aw : Nat) (az : Nat → Int) (bw bh : Nat) (bz : Nat → Int) (dx dy : Int) (i : Nat) (s : Int) : Int :=
  if 0 ≤ ((i % aw : Nat) : Int) + dx ∧ ((i % aw : Nat) : Int) + dx < bw ∧ 0 ≤ ((i / aw : Nat) : Int) + dy ∧ ((i / aw : Nat) : Int) + dy < bh then
    wrap64 (s + wrap64 (az i * bz ((((i / aw : Nat) : Int) + dy).toNat * bw + (((i % aw : Nat) : Int) + dx).toNat)))
  else s
def togUp (aw : Nat) (az : Nat → Int) (bw bh : Nat) (bz : Nat → Int) (dx dy : Int) : Nat → Int
  | 0 => 0
  | i + 1 => togStep aw az bw bh bz dx dy i (togUp aw az bw bh bz dx dy i)
theorem place {q p bw bh : Nat} (h1 : p < bw) (h2 : q < bh) : q * bw + p < bh * bw := by
  have : q * bw + bw ≤ bh * bw := by
    rw [← Nat.succ_mul]; exact Nat.mul_le_mul_right _ h2
  omega
set_option maxRecDepth 100000 in
set_option maxHeartbeats 8000000 in
theorem together_walk (A B : Pic) (aw ah bw bh : Nat) (dx dy : Int) (w : World) (hA : PicAt w A) (hB : PicAt w B) (fA : Fine A aw ah) (fB : Fine B bw bh) (hx : -16 ≤ dx ∧ dx ≤ 16) (hy : -16 ≤ dy ∧ dy ≤ 16) :
    Calls Tryd.prog 38 #[picV A, picV B, .int .i64 dx, .int .i64 dy] w fun e w' => e = .returned (.int .i64 (togUp aw A.z bw bh B.z dx dy (ah * aw))) ∧ Below w.heap.size w w' := by
  obtain ⟨W1, H1, r1, n1, cap1, z1⟩ := A
  obtain ⟨W2, H2, r2, n2, cap2, z2⟩ := B
  obtain ⟨hr1, _⟩ := hA
  obtain ⟨hr2, _⟩ := hB
  obtain ⟨rfl, rfl, a1, a2, a3, a4, a5⟩ := fA
  obtain ⟨rfl, rfl, b1, b2, b3, b4, b5⟩ := fB
  simp only at hr1 hr2 a5 b5 ⊢
  have hm1 : ah * aw ≤ 65536 := Nat.mul_le_mul a4 a2
  have hm0 : 1 ≤ ah * aw := Nat.mul_le_mul a3 a1
  have hm2 : bh * bw ≤ 65536 := Nat.mul_le_mul b4 b2
  have hm3 : 1 ≤ bh * bw := Nat.mul_le_mul b3 b1
  rw [← a5] at hm1 hm0 ⊢
  rw [← b5] at hm2 hm3
  obtain ⟨p1, o1, rfl, hc1⟩ := hr1.resolve_left (by omega)
  obtain ⟨p2, o2, rfl, hc2⟩ := hr2.resolve_left (by omega)
  have HC1 := Lib.hid hc1
  have HC2 := Lib.hid hc2
  have hp1 : p1 < w.heap.size := lt_of_cell (hc1 0 (by omega))
  have hp2 : p2 < w.heap.size := lt_of_cell (hc2 0 (by omega))
  have HD1 := Lib.hid (show ∀ i, i < n1 → i / aw < ah from fun i hi => (Nat.div_lt_iff_lt_mul (by omega)).2 (by omega))
  have HB5 := Lib.hid b5
  clear hr1 hr2 hc1 hc2 a5 b5
  unfold picV
  simp only
  go_enter Tryd.func38, Tryd.ntmps38
  go_wp2
  go_loopw [9, 17] (fun v9 v17 wr => ∃ k q : Nat, k ≤ n1 ∧ v17 = .int .i64 k ∧ v9 = .int .i64 (togUp aw z1 bw bh z2 dx dy k) ∧ wr = ((w.alloc (.cells #[.int .i64 aw, .int .i64 ah, .slice (some ⟨p1, o1, none⟩) n1 cap1] 41)).alloc (.cells #[.int .i64 bw, .int .i64 bh, .slice (some ⟨p2, o2, none⟩) n2 cap2] 41)).drewN q) (fun _ i _ => n1 - (intOf i).toNat)
  case atStart => exact ⟨0, 0, Nat.zero_le _, rfl, rfl, rfl⟩
  case round =>
    obtain ⟨k, q, hk, rfl, rfl, rfl⟩ := hrel
    by_cases hlt : k < n1
    · have c1 := HC1.out k hlt
      have HS := Lib.hid (show togUp aw z1 bw bh z2 dx dy (k + 1) = togStep aw z1 bw bh z2 dx dy k (togUp aw z1 bw bh z2 dx dy k) from rfl)
      unfold togStep at HS
      have hu : k % aw < aw := Nat.mod_lt _ (by omega)
      have hv : k / aw < ah := HD1.out k hlt
      have e1 : (k : Int).tmod (aw : Int) = ((k % aw : Nat) : Int) := (Int.ofNat_tmod k aw).symm
      have e2 : (k : Int).tdiv (aw : Int) = ((k / aw : Nat) : Int) := (Int.ofNat_tdiv k aw).symm
      generalize k % aw = u at hu e1 HS
      generalize k / aw = v at hv e2 HS
      have e3 : IntKind.i64.wrap ((u : Int) + dx) = (u : Int) + dx := IntWalk.i64_in _ (by omega)
      have e4 : IntKind.i64.wrap ((v : Int) + dy) = (v : Int) + dy := IntWalk.i64_in _ (by omega)
      have hn0 : ¬ ((aw : Int) = 0) := by omega
      generalize z1 k = x at c1 HS
      generalize togUp aw z1 bw bh z2 dx dy k = t at HS ⊢
      by_cases hin : 0 ≤ (u : Int) + dx ∧ (u : Int) + dx < bw ∧ 0 ≤ (v : Int) + dy ∧ (v : Int) + dy < bh
      · have HS2 := HS
        rw [if_pos hin] at HS2
        clear HS
        obtain ⟨i1, i2, i3, i4⟩ := hin
        obtain ⟨pn, hpn⟩ : ∃ pn : Nat, (u : Int) + dx = (pn : Int) := ⟨((u : Int) + dx).toNat, by omega⟩
        obtain ⟨qn, hqn⟩ : ∃ qn : Nat, (v : Int) + dy = (qn : Int) := ⟨((v : Int) + dy).toNat, by omega⟩
        rw [hpn, hqn] at HS2
        rw [hpn] at e3 i1 i2
        rw [hqn] at e4 i3 i4
        simp only [Int.toNat_natCast] at HS2
        have hj := place (bw := bw) (bh := bh) (p := pn) (q := qn) (by omega) (by omega)
        rw [← HB5.out] at hj
        have c2 := HC2.out (qn * bw + pn) hj
        have em : (qn : Int) * (bw : Int) = ((qn * bw : Nat) : Int) := (Int.natCast_mul _ _).symm
        generalize qn * bw = m at hj c2 em HS2
        generalize z2 (m + pn) = y at c2 HS2
        have hj0 : (0 : Int) ≤ (m : Int) + (pn : Int) := by omega
        have hj1 : (m : Int) + (pn : Int) < (n2 : Int) := by omega
        go_wp2
        go_quiet (fail)
        go_wp2
        go_roundw
        case rel => exact ⟨k + 1, _, by omega, by go_num, by rw [HS2.out], rfl⟩
        case measure => simp [intOf]; omega
      · have HS2 := HS
        rw [if_neg hin] at HS2
        clear HS
        go_wp2
        go_quiet (fail)
        go_wp2
        all_goals
          go_roundw
          case rel => exact ⟨k + 1, _, by omega, by go_num, by rw [HS2.out], rfl⟩
          case measure => simp [intOf]; omega
    · obtain rfl : k = n1 := by omega
      go_wp2
      go_ret
      exact ⟨rfl, grow_drewN (grow_alloc (grow_alloc (grow_refl w) _) _) _⟩
end Go.Proofs.YtaakbajhbmbhcaaDoor
