/- How two pictures go together at a shift: the document's. -/
import Derived.Test.YtaakbajhbmbhcaaDoorSy3
set_option linter.unusedSimpArgs false
set_option linter.unusedVariables false
namespace Go.Proofs.YtaakbajhbmbhcaaDoor
open Go.RowKit Go.Grow

set_option maxRecDepth 100000 in
set_option maxHeartbeats 16000000 in
theorem togetherAt_walk (A B : Pic) (p0 o0 p3 o3 : Nat) (aw ah bw bh : Nat) (dx dy : Int) (w : World) (hA : PicPtr w p0 o0 A) (hB : PicPtr w p3 o3 B) (fA : Fine A aw ah) (fB : Fine B bw bh) (hx : -16 ≤ dx ∧ dx ≤ 16) (hy : -16 ≤ dy ∧ dy ≤ 16) :
    Calls Tryd.prog 19 #[.pointer (some ⟨p0, o0, none⟩), .pointer (some ⟨p3, o3, none⟩), .int .i64 dx, .int .i64 dy] w fun e w' => e = .returned (.int .i64 (togUp aw A.z bw bh B.z dx dy (ah * aw))) ∧ ∃ q, w' = w.drewN q := by
  obtain ⟨W1, H1, r1, n1, cap1, z1⟩ := A
  obtain ⟨W2, H2, r2, n2, cap2, z2⟩ := B
  obtain ⟨ca0, ca1, ca2, hr1, _⟩ := hA
  obtain ⟨cb0, cb1, cb2, hr2, _⟩ := hB
  obtain ⟨rfl, rfl, a1, a2, a3, a4, a5⟩ := fA
  obtain ⟨rfl, rfl, b1, b2, b3, b4, b5⟩ := fB
  simp only at hr1 hr2 a5 b5 ca0 ca1 ca2 cb0 cb1 cb2 ⊢
  have hm1 : ah * aw ≤ 65536 := Nat.mul_le_mul a4 a2
  have hm0 : 1 ≤ ah * aw := Nat.mul_le_mul a3 a1
  have hm2 : bh * bw ≤ 65536 := Nat.mul_le_mul b4 b2
  have hm3 : 1 ≤ bh * bw := Nat.mul_le_mul b3 b1
  rw [← a5] at hm1 hm0
  rw [← b5] at hm2 hm3
  obtain ⟨p1, o1, rfl, hc1⟩ := hr1.resolve_left (by omega)
  obtain ⟨p2, o2, rfl, hc2⟩ := hr2.resolve_left (by omega)
  have HC1 := Lib.hid hc1
  have HC2 := Lib.hid hc2
  have HA5 := Lib.hid a5
  have HB5 := Lib.hid b5
  have HDM := Lib.hid (show ∀ y x : Nat, x < aw → (y * aw + x) % aw = x ∧ (y * aw + x) / aw = y from fun y x hx => by
    rw [Nat.add_comm, Nat.add_mul_mod_self_right, Nat.mod_eq_of_lt hx, Nat.add_mul_div_right _ _ (by omega), Nat.div_eq_of_lt hx]
    exact ⟨rfl, by omega⟩)
  clear hr1 hr2 hc1 hc2 a5 b5
  go_enter Tryd.func19, Tryd.ntmps19
  go_wp2
  go_loopw [9, 10] (fun v9 v10 wr => ∃ y q : Nat, y ≤ ah ∧ v10 = .int .i64 y ∧ v9 = .int .i64 (togUp aw z1 bw bh z2 dx dy (y * aw)) ∧ wr = w.drewN q) (fun _ i _ => ah - (intOf i).toNat)
  case atStart => exact ⟨0, 0, Nat.zero_le _, rfl, by rw [Nat.zero_mul]; rfl, rfl⟩
  case round =>
    obtain ⟨y, q, hy0, rfl, rfl, rfl⟩ := hrel
    by_cases hlt : y < ah
    · go_wp2
      go_loopw [9, 11] (fun v9 v11 wr => ∃ x q : Nat, x ≤ aw ∧ v11 = .int .i64 x ∧ v9 = .int .i64 (togUp aw z1 bw bh z2 dx dy (y * aw + x)) ∧ wr = w.drewN q) (fun _ i _ => aw - (intOf i).toNat)
      case atStart => exact ⟨0, q, Nat.zero_le _, rfl, rfl, rfl⟩
      case round =>
        obtain ⟨x, q2, hx0, rfl, rfl, rfl⟩ := hrel
        by_cases hxt : x < aw
        · have hi : y * aw + x < n1 := by rw [HA5.out]; exact place hxt hlt
          have c1 := HC1.out (y * aw + x) hi
          have HS := Lib.hid (show togUp aw z1 bw bh z2 dx dy (y * aw + (x + 1)) = togStep aw z1 bw bh z2 dx dy (y * aw + x) (togUp aw z1 bw bh z2 dx dy (y * aw + x)) from rfl)
          unfold togStep at HS
          rw [(HDM.out y x hxt).1, (HDM.out y x hxt).2] at HS
          have em1 : (y : Int) * (aw : Int) = ((y * aw : Nat) : Int) := (Int.natCast_mul _ _).symm
          generalize togUp aw z1 bw bh z2 dx dy (y * aw + x) = t at HS ⊢
          generalize z1 (y * aw + x) = u at c1 HS
          obtain ⟨tn, htn⟩ : ∃ tn, togUp aw z1 bw bh z2 dx dy (y * aw + (x + 1)) = tn := ⟨_, rfl⟩
          have HTN := Lib.hid htn
          rw [htn] at HS
          clear htn
          obtain ⟨m1, hm1e⟩ : ∃ m1, y * aw = m1 := ⟨_, rfl⟩
          rw [hm1e] at hi c1 em1
          have HM1 := Lib.hid hm1e
          clear hm1e
          have f1 : IntKind.i64.wrap (m1 : Int) = (m1 : Int) := IntWalk.i64_in _ (by omega)
          have f2 : IntKind.i64.wrap ((m1 : Int) + (x : Int)) = (m1 : Int) + (x : Int) := IntWalk.i64_in _ (by omega)
          have hi0 : (0 : Int) ≤ (m1 : Int) + (x : Int) := by omega
          have hi1 : (m1 : Int) + (x : Int) < (n1 : Int) := by omega
          by_cases hin : 0 ≤ (x : Int) + dx ∧ (x : Int) + dx < bw ∧ 0 ≤ (y : Int) + dy ∧ (y : Int) + dy < bh
          · have HS2 := HS
            rw [if_pos hin] at HS2
            clear HS
            obtain ⟨i1, i2, i3, i4⟩ := hin
            obtain ⟨pn, hpn⟩ : ∃ pn : Nat, (x : Int) + dx = (pn : Int) := ⟨((x : Int) + dx).toNat, by omega⟩
            obtain ⟨qn, hqn⟩ : ∃ qn : Nat, (y : Int) + dy = (qn : Int) := ⟨((y : Int) + dy).toNat, by omega⟩
            rw [hpn, hqn] at HS2
            rw [hpn] at i1 i2
            rw [hqn] at i3 i4
            simp only [Int.toNat_natCast] at HS2
            have hj := place (bw := bw) (bh := bh) (p := pn) (q := qn) (by omega) (by omega)
            rw [← HB5.out] at hj
            have c2 := HC2.out (qn * bw + pn) hj
            have em2 : (qn : Int) * (bw : Int) = ((qn * bw : Nat) : Int) := (Int.natCast_mul _ _).symm
            generalize qn * bw = m2 at hj c2 em2 HS2
            generalize z2 (m2 + pn) = v at c2 HS2
            have f3 : IntKind.i64.wrap (m2 : Int) = (m2 : Int) := IntWalk.i64_in _ (by omega)
            have f4 : IntKind.i64.wrap ((m2 : Int) + (pn : Int)) = (m2 : Int) + (pn : Int) := IntWalk.i64_in _ (by omega)
            have hj0 : (0 : Int) ≤ (m2 : Int) + (pn : Int) := by omega
            have hj1 : (m2 : Int) + (pn : Int) < (n2 : Int) := by omega
            go_wp2
            go_quiet (fail)
            go_wp2
            go_roundw
            case rel => exact ⟨x + 1, _, by omega, by go_num, by rw [HTN.out, HS2.out], rfl⟩
            case measure => simp [intOf]; omega
          · have HS2 := HS
            rw [if_neg hin] at HS2
            clear HS
            go_wp2
            all_goals
              go_roundw
              case rel => exact ⟨x + 1, _, by omega, by go_num, by rw [HTN.out, HS2.out], rfl⟩
              case measure => simp [intOf]; omega
        · obtain rfl : x = aw := by omega
          go_wp2
          go_roundw
          case rel => exact ⟨y + 1, _, by omega, by go_num, by rw [Nat.succ_mul], rfl⟩
          case measure => simp [intOf]; omega
    · obtain rfl : y = ah := by omega
      go_wp2
      go_ret
      exact ⟨rfl, _, rfl⟩
end Go.Proofs.YtaakbajhbmbhcaaDoor
