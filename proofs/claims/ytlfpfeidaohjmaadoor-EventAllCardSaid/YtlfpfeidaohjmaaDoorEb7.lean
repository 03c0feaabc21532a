/- Words of 64 bits: times; leading noughts; two words over one. -/
import Derived.Test.YtlfpfeidaohjmaaDoorShl3
import Derived.Test.YtlfpfeidaohjmaaDoorDv
import Derived.Test.YtlfpfeidaohjmaaDoorEs2
import Derived.Lib.ItoaNum
import Derived.Deep.DeepCutAuto
set_option linter.unusedSimpArgs false
set_option linter.unusedVariables false
namespace Go.Proofs.YtlfpfeidaohjmaaDoor
open Go.RowKit Go.Grow Go.Dv

theorem mul64_walk (x y : Nat) (hx : x < 18446744073709551616) (hy : y < 18446744073709551616) (w : World) :
    Calls Tryd.prog 135 #[.int .u64 x, .int .u64 y] w fun e w' => e = .returned (.tuple #[.int .u64 ((x * y / 18446744073709551616 : Nat) : Int), .int .u64 ((x * y % 18446744073709551616 : Nat) : Int)]) ∧ w' = w :=
  Any.bits_Mul64 YtlfpfeidaohjmaaDoor.laysMul64 x y hx hy w
theorem wrapN (a : Nat) (ha : a < 18446744073709551616) : IntKind.u64.wrap (a : Int) = (a : Int) := by rw [IntKind.wrap_u64]; omega
theorem lz_walk (x : Nat) (h0 : 0 < x) (h1 : x < 18446744073709551616) : ∃ s : Nat, s ≤ 63 ∧ 9223372036854775808 ≤ x * 2 ^ s ∧ x * 2 ^ s < 18446744073709551616 ∧ ∀ w, Calls Tryd.prog 161 #[.int .u64 x] w fun e w' => e = .returned (.int .i64 (s : Int)) ∧ w' = w := by
  obtain ⟨a1, a2, a3⟩ := Lib.bitLenAux_bounds 64 x h1 (by omega)
  have a4 : Lib.bitLen x ≤ 64 := Lib.bitLen_le x 64 (by decide) h1
  have e0 : Lib.bitLenAux 64 x = Lib.bitLen x := rfl
  rw [e0] at a1 a2 a3
  refine ⟨64 - Lib.bitLen x, by omega, ?_, ?_, fun w => ?_⟩
  · have h : 2 ^ (Lib.bitLen x - 1) * 2 ^ (64 - Lib.bitLen x) ≤ x * 2 ^ (64 - Lib.bitLen x) := Nat.mul_le_mul_right _ a2
    rw [← Nat.pow_add, show Lib.bitLen x - 1 + (64 - Lib.bitLen x) = 63 by omega] at h
    exact h
  · have h : x * 2 ^ (64 - Lib.bitLen x) < 2 ^ Lib.bitLen x * 2 ^ (64 - Lib.bitLen x) := Nat.mul_lt_mul_of_pos_right a3 (Nat.pow_pos (by decide))
    rw [← Nat.pow_add, show Lib.bitLen x + (64 - Lib.bitLen x) = 64 by omega] at h
    exact h
  · have h := Any.bits_LeadingZeros64 YtlfpfeidaohjmaaDoor.laysLz (x : Int) w (by omega) (by omega)
    rw [Int.toNat_natCast] at h
    rw [show ((64 - Lib.bitLen x : Nat) : Int) = 64 - (Lib.bitLen x : Int) by omega]
    exact h
set_option maxRecDepth 100000 in
set_option maxHeartbeats 16000000 in
theorem div64_low (lo y : Nat) (hlo : lo < 18446744073709551616) (hy0 : 0 < y) (hy : y < 18446744073709551616) (w : World) :
    Calls Tryd.prog 136 #[.int .u64 0, .int .u64 lo, .int .u64 y] w fun e w' => e = .returned (.tuple #[.int .u64 ((lo / y : Nat) : Int), .int .u64 ((lo % y : Nat) : Int)]) ∧ Below w.heap.size w w' := by
  have n1 : ¬ ((y : Int) = 0) := by omega
  have n2 : ¬ ((y : Int) ≤ 0) := by omega
  have e1 : (lo : Int).tdiv (y : Int) = ((lo / y : Nat) : Int) := by rw [Int.tdiv_eq_ediv_of_nonneg (by omega)]; rfl
  have e2 : (lo : Int).tmod (y : Int) = ((lo % y : Nat) : Int) := by rw [Int.tmod_eq_emod_of_nonneg (by omega)]; rfl
  go_enter Tryd.func136, Tryd.ntmps136
  go_wp2
  go_quiet (fail)
  go_wp2
  go_ret2
  have w1 : IntKind.u64.wrap ((lo : Int) / (y : Int)) = ((lo / y : Nat) : Int) := by
    have h : lo / y ≤ lo := Nat.div_le_self _ _
    rw [← Int.natCast_ediv]
    exact wrapN _ (Nat.lt_of_le_of_lt h hlo)
  exact ⟨by simp [w1], grow_drewN (grow_refl w) _⟩
theorem maskN (a : Nat) (ha : a < 18446744073709551616) : bits .and .u64 (a : Int) 4294967295 = ((a % 4294967296 : Nat) : Int) := by
  have h := bits_and_u64_nat a 4294967295 ha (by omega)
  have e : a &&& 4294967295 = a % 4294967296 := Nat.and_two_pow_sub_one_eq_mod a 32
  rw [e] at h
  exact h
theorem shlN (a s : Nat) (h : a * 2 ^ s < 18446744073709551616) : IntKind.u64.wrap ((a : Int) * 2 ^ s) = ((a * 2 ^ s : Nat) : Int) := by
  have e : (a : Int) * 2 ^ s = ((a * 2 ^ s : Nat) : Int) := by rw [Int.natCast_mul, Int.natCast_pow]; rfl
  rw [e]; exact wrapN _ h
theorem shlM (a s : Nat) : IntKind.u64.wrap ((a : Int) * 2 ^ s) = ((a * 2 ^ s % 18446744073709551616 : Nat) : Int) := by
  have e : (a : Int) * 2 ^ s = ((a * 2 ^ s : Nat) : Int) := by rw [Int.natCast_mul, Int.natCast_pow]; rfl
  rw [e, IntKind.wrap_u64]; omega
theorem orN (hi lo s : Nat) (hs : s ≤ 63) (hlo : lo < 18446744073709551616) (h : hi * 2 ^ s < 18446744073709551616) :
    bits .or .u64 (IntKind.u64.wrap ((hi : Int) * 2 ^ s)) ((lo : Int) / 2 ^ (64 - s)) = ((hi * 2 ^ s + lo / 2 ^ (64 - s) : Nat) : Int) := by
  have e1 : (lo : Int) / 2 ^ (64 - s) = ((lo / 2 ^ (64 - s) : Nat) : Int) := by rw [Int.natCast_ediv, Int.natCast_pow]; rfl
  have h2 : lo / 2 ^ (64 - s) < 2 ^ s := by
    rw [Nat.div_lt_iff_lt_mul (Nat.pow_pos (by decide)), ← Nat.pow_add, show s + (64 - s) = 64 by omega]
    exact hlo
  have h3 : 2 ^ s ≤ 2 ^ 63 := Nat.pow_le_pow_right (by decide) hs
  have h4 : (2 : Nat) ^ 63 = 9223372036854775808 := by decide
  rw [shlN _ _ h, e1, bits_or_u64_nat _ _ h (by omega), Nat.mul_comm hi, Nat.two_pow_add_eq_or_of_lt h2]
theorem ee_gen {u l d1 d0 N K M : Nat} (hM : M = K * K) (h : u * M + l = N) (hl : l = d1 * K + d0) : (u * K + d1) * K + d0 = N := by
  rw [← h, hl, hM, Nat.add_mul, Nat.mul_assoc, Nat.add_assoc]
theorem ee_of {u l d1 d0 N : Nat} (h : u * 18446744073709551616 + l = N) (hl : l = d1 * 4294967296 + d0) : (u * 4294967296 + d1) * 4294967296 + d0 = N := ee_gen (by decide) h hl
set_option maxRecDepth 100000 in
set_option maxHeartbeats 16000000 in
theorem div64_high (hi lo y : Nat) (hlo : lo < 18446744073709551616) (hh : 0 < hi) (hy1 : hi < y) (hy : y < 18446744073709551616) (w : World) :
    Calls Tryd.prog 136 #[.int .u64 hi, .int .u64 lo, .int .u64 y] w fun e w' => e = .returned (.tuple #[.int .u64 (((hi * 18446744073709551616 + lo) / y : Nat) : Int), .int .u64 (((hi * 18446744073709551616 + lo) % y : Nat) : Int)]) ∧ Below w.heap.size w w' := by
  obtain ⟨Qn, hQn⟩ : ∃ Qn, (hi * 18446744073709551616 + lo) / y = Qn := ⟨_, rfl⟩
  obtain ⟨Rn, hRn⟩ : ∃ Rn, (hi * 18446744073709551616 + lo) % y = Rn := ⟨_, rfl⟩
  rw [hQn, hRn]
  have HQ := Lib.hid hQn
  have HR := Lib.hid hRn
  clear hQn hRn
  obtain ⟨s, s1, s2, s3, LZ⟩ := lz_walk y (by omega) hy
  have HL := Lib.hid LZ
  clear LZ
  have n1 : ¬ ((y : Int) = 0) := by omega
  have n2 : ¬ ((y : Int) ≤ (hi : Int)) := by omega
  have n3 : ¬ ((hi : Int) = 0) := by omega
  go_enter Tryd.func136, Tryd.ntmps136
  obtain ⟨Y, hY⟩ : ∃ Y, y * 2 ^ s = Y := ⟨_, rfl⟩
  have hhs : hi * 2 ^ s < Y := by rw [← hY]; exact Nat.mul_lt_mul_of_pos_right hy1 (Nat.pow_pos (by decide))
  rw [hY] at s2 s3
  have eY : IntKind.u64.wrap ((y : Int) * 2 ^ s) = (Y : Int) := by rw [← hY]; exact shlN y s (by rw [hY]; exact s3)
  have eO := orN hi lo s s1 hlo (by omega)
  have eL := shlM lo s
  obtain ⟨u, hu⟩ : ∃ u, hi * 2 ^ s + lo / 2 ^ (64 - s) = u := ⟨_, rfl⟩
  obtain ⟨l, hl⟩ : ∃ l, lo * 2 ^ s % 18446744073709551616 = l := ⟨_, rfl⟩
  have MV := Lib.hid (show u * 18446744073709551616 + l = (hi * 18446744073709551616 + lo) * 2 ^ s by rw [← hu, ← hl]; exact moved (y := y) s1 hlo)
  rw [hu] at eO
  rw [hl] at eL
  have HY := Lib.hid hY
  have EY := Lib.hid eY
  have EO := Lib.hid eO
  have EL := Lib.hid eL
  have hl2 : l < 18446744073709551616 := by rw [← hl]; exact Nat.mod_lt _ (by decide)
  have hu2 : u < Y := by
    have h2 : lo / 2 ^ (64 - s) < 2 ^ s := by
      rw [Nat.div_lt_iff_lt_mul (Nat.pow_pos (by decide)), ← Nat.pow_add, show s + (64 - s) = 64 by omega]
      exact hlo
    have h3 : (hi + 1) * 2 ^ s ≤ y * 2 ^ s := Nat.mul_le_mul_right _ hy1
    rw [Nat.add_mul, Nat.one_mul, hY] at h3
    omega
  clear eY eO eL hu hl hY hhs
  go_upto_region 15 with (go_at_call 161; (with_reducible refine (HL.out _).mono ?_); rintro e w1 ⟨rfl, rfl⟩)
  rw [EY.out, EO.out, EL.out, maskN Y s3, maskN l hl2]
  obtain ⟨a, ha⟩ : ∃ a, Y / 4294967296 = a := ⟨_, rfl⟩
  obtain ⟨b, hb⟩ : ∃ b, Y % 4294967296 = b := ⟨_, rfl⟩
  obtain ⟨d1, hd1⟩ : ∃ d1, l / 4294967296 = d1 := ⟨_, rfl⟩
  obtain ⟨d0, hd0⟩ : ∃ d0, l % 4294967296 = d0 := ⟨_, rfl⟩
  have ea : (Y : Int) / 4294967296 = (a : Int) := by omega
  have ed : (l : Int) / 4294967296 = (d1 : Int) := by omega
  rw [ea, ed, hb, hd0]
  have NM : Norm Y a b := ⟨by omega, by omega, by omega, by omega⟩
  have NMH := Lib.hid NM
  have hD1 : d1 < 4294967296 := by omega
  have hD0 : d0 < 4294967296 := by omega
  have hLD : l = d1 * 4294967296 + d0 := by omega
  have HLD := Lib.hid hLD
  have na : ¬ ((a : Int) = 0) := by have := NM.ge; omega
  have I0 := init NM hu2 hD1
  obtain ⟨q0, hq0⟩ : ∃ q0, u / a = q0 := ⟨_, rfl⟩
  obtain ⟨r0, hr0⟩ : ∃ r0, u % a = r0 := ⟨_, rfl⟩
  rw [hq0, hr0] at I0
  have I0H := Lib.hid I0
  have ga := NM.ge
  have la := NM.lt
  have lb := NM.lo
  have b1 := I0.le
  have b2 := I0.lt
  have sm := I0.sum
  have v15 : IntKind.u64.wrap ((u : Int) / (a : Int)) = (q0 : Int) := by rw [← Int.natCast_ediv, hq0]; exact wrapN _ (by omega)
  obtain ⟨m0, hm0⟩ : ∃ m0, q0 * a = m0 := ⟨_, rfl⟩
  rw [hm0] at sm
  have v16 : IntKind.u64.wrap ((q0 : Int) * (a : Int)) = (m0 : Int) := by rw [← Int.natCast_mul, hm0]; exact wrapN _ (by omega)
  have v17 : IntKind.u64.wrap ((u : Int) - (m0 : Int)) = (r0 : Int) := by rw [show (u : Int) - (m0 : Int) = (r0 : Int) by omega]; exact wrapN _ (by omega)
  clear NM I0 hq0 hr0 hm0 hLD ea ed ha hb hd1 hd0
  go_wp2
  go_loopw [15, 16] (fun v15 v16 wr => ∃ q r : Nat, v15 = .int .u64 q ∧ v16 = .int .u64 r ∧ Inv Y a b u d1 q r ∧ w1 = wr) (fun v _ _ => (intOf v).toNat)
  case atStart => exact ⟨q0, r0, rfl, rfl, I0H.out, rfl⟩
  case round =>
    clear v15 v16 v17
    obtain ⟨q, r, rfl, rfl, hI, rfl⟩ := hrel
    have I := Lib.hid hI
    have TI := test_iff NMH.out hu2 hD1 hI
    have c1 := hI.le
    have c2 := hI.lt
    clear hI
    obtain ⟨P, hP⟩ : ∃ P, q * b = P := ⟨_, rfl⟩
    have hPb : P ≤ 4294967297 * 4294967295 := by rw [← hP]; exact Nat.mul_le_mul (by omega) (by omega)
    have wP : IntKind.u64.wrap ((q : Int) * (b : Int)) = (P : Int) := by rw [← Int.natCast_mul, hP]; exact wrapN _ (by omega)
    obtain ⟨R, hR⟩ : ∃ R, 4294967296 * r = R := ⟨_, rfl⟩
    have wR : IntKind.u64.wrap (4294967296 * (r : Int)) = (R : Int) := by rw [show 4294967296 * (r : Int) = (R : Int) by omega]; exact wrapN _ (by omega)
    obtain ⟨D, hD⟩ : ∃ D, R + d1 = D := ⟨_, rfl⟩
    have wD : IntKind.u64.wrap ((R : Int) + (d1 : Int)) = (D : Int) := by rw [show (R : Int) + (d1 : Int) = (D : Int) by omega]; exact wrapN _ (by omega)
    rw [hP, hR, hD] at TI
    by_cases hq : (u * 4294967296 + d1) / Y < q
    · by_cases hbq : 4294967296 ≤ q
      · have hbq' : (4294967296 : Int) ≤ (q : Int) := by omega
        obtain ⟨q1, hq1⟩ : ∃ q1, q - 1 = q1 := ⟨_, rfl⟩
        obtain ⟨r1, hr1⟩ : ∃ r1, r + a = r1 := ⟨_, rfl⟩
        have hqp : 0 < q := Nat.lt_of_le_of_lt (Nat.zero_le _) hq
        have wq : IntKind.u64.wrap ((q : Int) - 1) = (q1 : Int) := by rw [show (q : Int) - 1 = (q1 : Int) by omega]; exact wrapN _ (by omega)
        have wr1 : IntKind.u64.wrap ((r : Int) + (a : Int)) = (r1 : Int) := by rw [show (r : Int) + (a : Int) = (r1 : Int) by omega]; exact wrapN _ (by omega)
        by_cases h20 : 4294967296 ≤ r1
        · have QD := Lib.hid (show q1 = (u * 4294967296 + d1) / Y by rw [← hq1]; exact step_out NMH.out hu2 hD1 I.out hq (by rw [hr1]; exact h20))
          have h20' : (4294967296 : Int) ≤ (r1 : Int) := by omega
          clear I TI hq hq1 hr1 hP hR hD
          obtain ⟨z, hz⟩ : ∃ z, (u * 4294967296 + d1) % Y = z := ⟨_, rfl⟩
          have QE := Lib.hid QD.out
          have QZ := Lib.hid hz.symm
          have hz2 : z < Y := by rw [← hz]; exact Nat.mod_lt _ (by omega)
          have hdm : Y * q1 + z = u * 4294967296 + d1 := by rw [← hz, QE.out]; exact Nat.div_add_mod _ _
          obtain ⟨x1, hx1⟩ : ∃ x1, u * 4294967296 % 18446744073709551616 = x1 := ⟨_, rfl⟩
          have y1 : IntKind.u64.wrap ((u : Int) * 4294967296) = (x1 : Int) := by rw [IntKind.wrap_u64]; omega
          obtain ⟨x2, hx2⟩ : ∃ x2, (x1 + d1) % 18446744073709551616 = x2 := ⟨_, rfl⟩
          have y2 : IntKind.u64.wrap ((x1 : Int) + (d1 : Int)) = (x2 : Int) := by rw [IntKind.wrap_u64]; omega
          obtain ⟨x0, hx0⟩ : ∃ x0, q1 * Y = x0 := ⟨_, rfl⟩
          rw [Nat.mul_comm, hx0] at hdm
          obtain ⟨x3, hx3⟩ : ∃ x3, x0 % 18446744073709551616 = x3 := ⟨_, rfl⟩
          have y3 : IntKind.u64.wrap ((q1 : Int) * (Y : Int)) = (x3 : Int) := by rw [← Int.natCast_mul, hx0, IntKind.wrap_u64]; omega
          have y4 : IntKind.u64.wrap ((x2 : Int) - (x3 : Int)) = (z : Int) := by rw [IntKind.wrap_u64]; omega
          have J0 := init NMH.out hz2 hD0
          obtain ⟨q9, hq9⟩ : ∃ q9, z / a = q9 := ⟨_, rfl⟩
          obtain ⟨r9, hr9⟩ : ∃ r9, z % a = r9 := ⟨_, rfl⟩
          rw [hq9, hr9] at J0
          have J0H := Lib.hid J0
          have e1 := J0.le
          have e2 := J0.lt
          have sm2 := J0.sum
          have y5 : IntKind.u64.wrap ((z : Int) / (a : Int)) = (q9 : Int) := by rw [← Int.natCast_ediv, hq9]; exact wrapN _ (by omega)
          obtain ⟨m9, hm9⟩ : ∃ m9, q9 * a = m9 := ⟨_, rfl⟩
          rw [hm9] at sm2
          have y6 : IntKind.u64.wrap ((q9 : Int) * (a : Int)) = (m9 : Int) := by rw [← Int.natCast_mul, hm9]; exact wrapN _ (by omega)
          have y7 : IntKind.u64.wrap ((z : Int) - (m9 : Int)) = (r9 : Int) := by rw [show (z : Int) - (m9 : Int) = (r9 : Int) by omega]; exact wrapN _ (by omega)
          clear J0 hq9 hr9 hm9 hdm hx1 hx2 hx0 hx3 QD hz

          go_wp2
          clear wq wr1 wP wR wD h20' h20 hPb hqp c1 c2
          obtain ⟨g1, hg1⟩ : ∃ g, g = q1 := ⟨_, rfl⟩
          subst hg1
          clear y1 y2 y3 y4 y5 y6 y7
          go_loopw [18, 16] (fun v18 v16 wr => ∃ q r : Nat, v18 = .int .u64 q ∧ v16 = .int .u64 r ∧ Inv Y a b z d0 q r ∧ w1 = wr) (fun v _ _ => (intOf v).toNat)
          case atStart => exact ⟨q9, r9, rfl, rfl, J0H.out, rfl⟩
          case round =>
            obtain ⟨q, r, rfl, rfl, hI, rfl⟩ := hrel
            have I := Lib.hid hI
            have TI := test_iff NMH.out hz2 hD0 hI
            have c1 := hI.le
            have c2 := hI.lt
            clear hI
            obtain ⟨P, hP⟩ : ∃ P, q * b = P := ⟨_, rfl⟩
            have hPb : P ≤ 4294967297 * 4294967295 := by rw [← hP]; exact Nat.mul_le_mul (by omega) (by omega)
            have wP : IntKind.u64.wrap ((q : Int) * (b : Int)) = (P : Int) := by rw [← Int.natCast_mul, hP]; exact wrapN _ (by omega)
            obtain ⟨R, hR⟩ : ∃ R, 4294967296 * r = R := ⟨_, rfl⟩
            have wR : IntKind.u64.wrap (4294967296 * (r : Int)) = (R : Int) := by rw [show 4294967296 * (r : Int) = (R : Int) by omega]; exact wrapN _ (by omega)
            obtain ⟨D, hD⟩ : ∃ D, R + d0 = D := ⟨_, rfl⟩
            have wD : IntKind.u64.wrap ((R : Int) + (d0 : Int)) = (D : Int) := by rw [show (R : Int) + (d0 : Int) = (D : Int) by omega]; exact wrapN _ (by omega)
            rw [hP, hR, hD] at TI
            by_cases hq : (z * 4294967296 + d0) / Y < q
            · by_cases hbq : 4294967296 ≤ q
              · have hbq' : (4294967296 : Int) ≤ (q : Int) := by omega
                obtain ⟨q1, hq1⟩ : ∃ q1, q - 1 = q1 := ⟨_, rfl⟩
                obtain ⟨r1, hr1⟩ : ∃ r1, r + a = r1 := ⟨_, rfl⟩
                have hqp : 0 < q := Nat.lt_of_le_of_lt (Nat.zero_le _) hq
                have wq : IntKind.u64.wrap ((q : Int) - 1) = (q1 : Int) := by rw [show (q : Int) - 1 = (q1 : Int) by omega]; exact wrapN _ (by omega)
                have wr1 : IntKind.u64.wrap ((r : Int) + (a : Int)) = (r1 : Int) := by rw [show (r : Int) + (a : Int) = (r1 : Int) by omega]; exact wrapN _ (by omega)
                by_cases h20 : 4294967296 ≤ r1
                · have QD := Lib.hid (show q1 = (z * 4294967296 + d0) / Y by rw [← hq1]; exact step_out NMH.out hz2 hD0 I.out hq (by rw [hr1]; exact h20))
                  have h20' : (4294967296 : Int) ≤ (r1 : Int) := by omega
                  clear I TI hq hq1 hr1 hP hR hD
                  have QF := Lib.hid QD.out
                  have lg := digit_lt NMH.out hu2 hD1
                  rw [← QE.out] at lg
                  have lq := digit_lt NMH.out hz2 hD0
                  rw [← QF.out] at lq
                  obtain ⟨z2, hz3⟩ : ∃ z2, (z * 4294967296 + d0) % Y = z2 := ⟨_, rfl⟩
                  have hzl : z2 < Y := by rw [← hz3]; exact Nat.mod_lt _ (by omega)
                  have hdm : Y * q1 + z2 = z * 4294967296 + d0 := by rw [← hz3, QF.out]; exact Nat.div_add_mod _ _
                  have sc := two_digits (x := u * 4294967296 + d1) (y := Y) (d0 := d0) (by omega)
                  rw [← QE.out, ← QZ.out, ← QF.out, hz3] at sc
                  obtain ⟨sc1, sc2⟩ := sc
                  have ee : (u * 4294967296 + d1) * 4294967296 + d0 = (hi * 18446744073709551616 + lo) * 2 ^ s := ee_of MV.out HLD.out
                  have sk := scaled (n := hi * 18446744073709551616 + lo) (y := y) (k := 2 ^ s) (Nat.pow_pos (by decide))
                  rw [ee, ← HY.out, sk.1] at sc1
                  rw [ee, ← HY.out] at sc2
                  have sk2 := sk.2
                  rw [← sc2] at sk2
                  have SC := Lib.hid sc1
                  have SK := Lib.hid sk2
                  clear sc1 sc2 sk sk2 ee
                  obtain ⟨k1, hk1⟩ : ∃ k1, g1 * 4294967296 = k1 := ⟨_, rfl⟩
                  have f1 : IntKind.u64.wrap ((g1 : Int) * 4294967296) = (k1 : Int) := by rw [show (g1 : Int) * 4294967296 = (k1 : Int) by omega]; exact wrapN _ (by omega)
                  obtain ⟨k2, hk2⟩ : ∃ k2, k1 + q1 = k2 := ⟨_, rfl⟩
                  have f2 : IntKind.u64.wrap ((k1 : Int) + (q1 : Int)) = (k2 : Int) := by rw [show (k1 : Int) + (q1 : Int) = (k2 : Int) by omega]; exact wrapN _ (by omega)
                  obtain ⟨p1, hp1⟩ : ∃ p1, z * 4294967296 % 18446744073709551616 = p1 := ⟨_, rfl⟩
                  have f3 : IntKind.u64.wrap ((z : Int) * 4294967296) = (p1 : Int) := by rw [IntKind.wrap_u64]; omega
                  obtain ⟨p2, hp2⟩ : ∃ p2, (p1 + d0) % 18446744073709551616 = p2 := ⟨_, rfl⟩
                  have f4 : IntKind.u64.wrap ((p1 : Int) + (d0 : Int)) = (p2 : Int) := by rw [IntKind.wrap_u64]; omega
                  obtain ⟨p0, hp0⟩ : ∃ p0, q1 * Y = p0 := ⟨_, rfl⟩
                  rw [Nat.mul_comm, hp0] at hdm
                  obtain ⟨p3, hp3⟩ : ∃ p3, p0 % 18446744073709551616 = p3 := ⟨_, rfl⟩
                  have f5 : IntKind.u64.wrap ((q1 : Int) * (Y : Int)) = (p3 : Int) := by rw [← Int.natCast_mul, hp0, IntKind.wrap_u64]; omega
                  have f6 : IntKind.u64.wrap ((p2 : Int) - (p3 : Int)) = (z2 : Int) := by rw [IntKind.wrap_u64]; omega
                  have KE := Lib.hid (show k2 = Qn by rw [← hk2, ← hk1, ← HQ.out]; exact SC.out)
                  have RE := Lib.hid (show (z2 : Int) / 2 ^ s = (Rn : Int) by rw [← HR.out, ← SK.out, Int.natCast_ediv, Int.natCast_pow]; rfl)
                  clear hk1 hk2 hp1 hp2 hp0 hp3 hdm hz3 QD
                  go_wp2
                  clear wq wr1 wP wR wD h20' h20 hPb hqp c1 c2
                  go_ret2
                  refine ⟨?_, Below.refl _ _⟩
                  rw [RE.out, KE.out]
                  rfl

                · have IN := Lib.hid (show Inv Y a b z d0 q1 r1 by rw [← hq1, ← hr1]; exact step_on I.out hq (by omega))
                  have h20' : ¬ (4294967296 : Int) ≤ (r1 : Int) := by omega
                  clear I TI hq hr1 hP hR hD
                  go_wp2
                  go_roundw
                  case rel => exact ⟨q1, r1, rfl, rfl, IN.out, by first | rfl | trivial⟩
                  case measure => simp [intOf]; omega

              · have hbq' : ¬ (4294967296 : Int) ≤ (q : Int) := by omega
                have hPD : (D : Int) < (P : Int) := by have := TI.2 hq; omega
                obtain ⟨q1, hq1⟩ : ∃ q1, q - 1 = q1 := ⟨_, rfl⟩
                obtain ⟨r1, hr1⟩ : ∃ r1, r + a = r1 := ⟨_, rfl⟩
                have hqp : 0 < q := Nat.lt_of_le_of_lt (Nat.zero_le _) hq
                have wq : IntKind.u64.wrap ((q : Int) - 1) = (q1 : Int) := by rw [show (q : Int) - 1 = (q1 : Int) by omega]; exact wrapN _ (by omega)
                have wr1 : IntKind.u64.wrap ((r : Int) + (a : Int)) = (r1 : Int) := by rw [show (r : Int) + (a : Int) = (r1 : Int) by omega]; exact wrapN _ (by omega)
                by_cases h20 : 4294967296 ≤ r1
                · have QD := Lib.hid (show q1 = (z * 4294967296 + d0) / Y by rw [← hq1]; exact step_out NMH.out hz2 hD0 I.out hq (by rw [hr1]; exact h20))
                  have h20' : (4294967296 : Int) ≤ (r1 : Int) := by omega
                  clear I TI hq hq1 hr1 hP hR hD
                  have QF := Lib.hid QD.out
                  have lg := digit_lt NMH.out hu2 hD1
                  rw [← QE.out] at lg
                  have lq := digit_lt NMH.out hz2 hD0
                  rw [← QF.out] at lq
                  obtain ⟨z2, hz3⟩ : ∃ z2, (z * 4294967296 + d0) % Y = z2 := ⟨_, rfl⟩
                  have hzl : z2 < Y := by rw [← hz3]; exact Nat.mod_lt _ (by omega)
                  have hdm : Y * q1 + z2 = z * 4294967296 + d0 := by rw [← hz3, QF.out]; exact Nat.div_add_mod _ _
                  have sc := two_digits (x := u * 4294967296 + d1) (y := Y) (d0 := d0) (by omega)
                  rw [← QE.out, ← QZ.out, ← QF.out, hz3] at sc
                  obtain ⟨sc1, sc2⟩ := sc
                  have ee : (u * 4294967296 + d1) * 4294967296 + d0 = (hi * 18446744073709551616 + lo) * 2 ^ s := ee_of MV.out HLD.out
                  have sk := scaled (n := hi * 18446744073709551616 + lo) (y := y) (k := 2 ^ s) (Nat.pow_pos (by decide))
                  rw [ee, ← HY.out, sk.1] at sc1
                  rw [ee, ← HY.out] at sc2
                  have sk2 := sk.2
                  rw [← sc2] at sk2
                  have SC := Lib.hid sc1
                  have SK := Lib.hid sk2
                  clear sc1 sc2 sk sk2 ee
                  obtain ⟨k1, hk1⟩ : ∃ k1, g1 * 4294967296 = k1 := ⟨_, rfl⟩
                  have f1 : IntKind.u64.wrap ((g1 : Int) * 4294967296) = (k1 : Int) := by rw [show (g1 : Int) * 4294967296 = (k1 : Int) by omega]; exact wrapN _ (by omega)
                  obtain ⟨k2, hk2⟩ : ∃ k2, k1 + q1 = k2 := ⟨_, rfl⟩
                  have f2 : IntKind.u64.wrap ((k1 : Int) + (q1 : Int)) = (k2 : Int) := by rw [show (k1 : Int) + (q1 : Int) = (k2 : Int) by omega]; exact wrapN _ (by omega)
                  obtain ⟨p1, hp1⟩ : ∃ p1, z * 4294967296 % 18446744073709551616 = p1 := ⟨_, rfl⟩
                  have f3 : IntKind.u64.wrap ((z : Int) * 4294967296) = (p1 : Int) := by rw [IntKind.wrap_u64]; omega
                  obtain ⟨p2, hp2⟩ : ∃ p2, (p1 + d0) % 18446744073709551616 = p2 := ⟨_, rfl⟩
                  have f4 : IntKind.u64.wrap ((p1 : Int) + (d0 : Int)) = (p2 : Int) := by rw [IntKind.wrap_u64]; omega
                  obtain ⟨p0, hp0⟩ : ∃ p0, q1 * Y = p0 := ⟨_, rfl⟩
                  rw [Nat.mul_comm, hp0] at hdm
                  obtain ⟨p3, hp3⟩ : ∃ p3, p0 % 18446744073709551616 = p3 := ⟨_, rfl⟩
                  have f5 : IntKind.u64.wrap ((q1 : Int) * (Y : Int)) = (p3 : Int) := by rw [← Int.natCast_mul, hp0, IntKind.wrap_u64]; omega
                  have f6 : IntKind.u64.wrap ((p2 : Int) - (p3 : Int)) = (z2 : Int) := by rw [IntKind.wrap_u64]; omega
                  have KE := Lib.hid (show k2 = Qn by rw [← hk2, ← hk1, ← HQ.out]; exact SC.out)
                  have RE := Lib.hid (show (z2 : Int) / 2 ^ s = (Rn : Int) by rw [← HR.out, ← SK.out, Int.natCast_ediv, Int.natCast_pow]; rfl)
                  clear hk1 hk2 hp1 hp2 hp0 hp3 hdm hz3 QD
                  go_wp2
                  clear wq wr1 wP wR wD h20' h20 hPb hqp c1 c2
                  go_ret2
                  refine ⟨?_, Below.refl _ _⟩
                  rw [RE.out, KE.out]
                  rfl

                · have IN := Lib.hid (show Inv Y a b z d0 q1 r1 by rw [← hq1, ← hr1]; exact step_on I.out hq (by omega))
                  have h20' : ¬ (4294967296 : Int) ≤ (r1 : Int) := by omega
                  clear I TI hq hr1 hP hR hD
                  go_wp2
                  go_roundw
                  case rel => exact ⟨q1, r1, rfl, rfl, IN.out, by first | rfl | trivial⟩
                  case measure => simp [intOf]; omega

            · have QD := Lib.hid (done I.out hq)
              have hn := fun h => hq (TI.1 h)
              have hbq' : ¬ (4294967296 : Int) ≤ (q : Int) := fun h => hn (.inl (by omega))
              have hPD : ¬ (D : Int) < (P : Int) := fun h => hn (.inr (by omega))
              clear I TI hq hP hR hD hn
              have QF := Lib.hid QD.out
              have lg := digit_lt NMH.out hu2 hD1
              rw [← QE.out] at lg
              have lq := digit_lt NMH.out hz2 hD0
              rw [← QF.out] at lq
              obtain ⟨z2, hz3⟩ : ∃ z2, (z * 4294967296 + d0) % Y = z2 := ⟨_, rfl⟩
              have hzl : z2 < Y := by rw [← hz3]; exact Nat.mod_lt _ (by omega)
              have hdm : Y * q + z2 = z * 4294967296 + d0 := by rw [← hz3, QF.out]; exact Nat.div_add_mod _ _
              have sc := two_digits (x := u * 4294967296 + d1) (y := Y) (d0 := d0) (by omega)
              rw [← QE.out, ← QZ.out, ← QF.out, hz3] at sc
              obtain ⟨sc1, sc2⟩ := sc
              have ee : (u * 4294967296 + d1) * 4294967296 + d0 = (hi * 18446744073709551616 + lo) * 2 ^ s := ee_of MV.out HLD.out
              have sk := scaled (n := hi * 18446744073709551616 + lo) (y := y) (k := 2 ^ s) (Nat.pow_pos (by decide))
              rw [ee, ← HY.out, sk.1] at sc1
              rw [ee, ← HY.out] at sc2
              have sk2 := sk.2
              rw [← sc2] at sk2
              have SC := Lib.hid sc1
              have SK := Lib.hid sk2
              clear sc1 sc2 sk sk2 ee
              obtain ⟨k1, hk1⟩ : ∃ k1, g1 * 4294967296 = k1 := ⟨_, rfl⟩
              have f1 : IntKind.u64.wrap ((g1 : Int) * 4294967296) = (k1 : Int) := by rw [show (g1 : Int) * 4294967296 = (k1 : Int) by omega]; exact wrapN _ (by omega)
              obtain ⟨k2, hk2⟩ : ∃ k2, k1 + q = k2 := ⟨_, rfl⟩
              have f2 : IntKind.u64.wrap ((k1 : Int) + (q : Int)) = (k2 : Int) := by rw [show (k1 : Int) + (q : Int) = (k2 : Int) by omega]; exact wrapN _ (by omega)
              obtain ⟨p1, hp1⟩ : ∃ p1, z * 4294967296 % 18446744073709551616 = p1 := ⟨_, rfl⟩
              have f3 : IntKind.u64.wrap ((z : Int) * 4294967296) = (p1 : Int) := by rw [IntKind.wrap_u64]; omega
              obtain ⟨p2, hp2⟩ : ∃ p2, (p1 + d0) % 18446744073709551616 = p2 := ⟨_, rfl⟩
              have f4 : IntKind.u64.wrap ((p1 : Int) + (d0 : Int)) = (p2 : Int) := by rw [IntKind.wrap_u64]; omega
              obtain ⟨p0, hp0⟩ : ∃ p0, q * Y = p0 := ⟨_, rfl⟩
              rw [Nat.mul_comm, hp0] at hdm
              obtain ⟨p3, hp3⟩ : ∃ p3, p0 % 18446744073709551616 = p3 := ⟨_, rfl⟩
              have f5 : IntKind.u64.wrap ((q : Int) * (Y : Int)) = (p3 : Int) := by rw [← Int.natCast_mul, hp0, IntKind.wrap_u64]; omega
              have f6 : IntKind.u64.wrap ((p2 : Int) - (p3 : Int)) = (z2 : Int) := by rw [IntKind.wrap_u64]; omega
              have KE := Lib.hid (show k2 = Qn by rw [← hk2, ← hk1, ← HQ.out]; exact SC.out)
              have RE := Lib.hid (show (z2 : Int) / 2 ^ s = (Rn : Int) by rw [← HR.out, ← SK.out, Int.natCast_ediv, Int.natCast_pow]; rfl)
              clear hk1 hk2 hp1 hp2 hp0 hp3 hdm hz3 QD
              go_wp2
              clear wP wR wD hbq' hPD hPb c1 c2
              go_ret2
              refine ⟨?_, Below.refl _ _⟩
              rw [RE.out, KE.out]
              rfl


        · have IN := Lib.hid (show Inv Y a b u d1 q1 r1 by rw [← hq1, ← hr1]; exact step_on I.out hq (by omega))
          have h20' : ¬ (4294967296 : Int) ≤ (r1 : Int) := by omega
          clear I TI hq hr1 hP hR hD
          go_wp2
          go_roundw
          case rel => exact ⟨q1, r1, rfl, rfl, IN.out, by first | rfl | trivial⟩
          case measure => simp [intOf]; omega

      · have hbq' : ¬ (4294967296 : Int) ≤ (q : Int) := by omega
        have hPD : (D : Int) < (P : Int) := by have := TI.2 hq; omega
        obtain ⟨q1, hq1⟩ : ∃ q1, q - 1 = q1 := ⟨_, rfl⟩
        obtain ⟨r1, hr1⟩ : ∃ r1, r + a = r1 := ⟨_, rfl⟩
        have hqp : 0 < q := Nat.lt_of_le_of_lt (Nat.zero_le _) hq
        have wq : IntKind.u64.wrap ((q : Int) - 1) = (q1 : Int) := by rw [show (q : Int) - 1 = (q1 : Int) by omega]; exact wrapN _ (by omega)
        have wr1 : IntKind.u64.wrap ((r : Int) + (a : Int)) = (r1 : Int) := by rw [show (r : Int) + (a : Int) = (r1 : Int) by omega]; exact wrapN _ (by omega)
        by_cases h20 : 4294967296 ≤ r1
        · have QD := Lib.hid (show q1 = (u * 4294967296 + d1) / Y by rw [← hq1]; exact step_out NMH.out hu2 hD1 I.out hq (by rw [hr1]; exact h20))
          have h20' : (4294967296 : Int) ≤ (r1 : Int) := by omega
          clear I TI hq hq1 hr1 hP hR hD
          obtain ⟨z, hz⟩ : ∃ z, (u * 4294967296 + d1) % Y = z := ⟨_, rfl⟩
          have QE := Lib.hid QD.out
          have QZ := Lib.hid hz.symm
          have hz2 : z < Y := by rw [← hz]; exact Nat.mod_lt _ (by omega)
          have hdm : Y * q1 + z = u * 4294967296 + d1 := by rw [← hz, QE.out]; exact Nat.div_add_mod _ _
          obtain ⟨x1, hx1⟩ : ∃ x1, u * 4294967296 % 18446744073709551616 = x1 := ⟨_, rfl⟩
          have y1 : IntKind.u64.wrap ((u : Int) * 4294967296) = (x1 : Int) := by rw [IntKind.wrap_u64]; omega
          obtain ⟨x2, hx2⟩ : ∃ x2, (x1 + d1) % 18446744073709551616 = x2 := ⟨_, rfl⟩
          have y2 : IntKind.u64.wrap ((x1 : Int) + (d1 : Int)) = (x2 : Int) := by rw [IntKind.wrap_u64]; omega
          obtain ⟨x0, hx0⟩ : ∃ x0, q1 * Y = x0 := ⟨_, rfl⟩
          rw [Nat.mul_comm, hx0] at hdm
          obtain ⟨x3, hx3⟩ : ∃ x3, x0 % 18446744073709551616 = x3 := ⟨_, rfl⟩
          have y3 : IntKind.u64.wrap ((q1 : Int) * (Y : Int)) = (x3 : Int) := by rw [← Int.natCast_mul, hx0, IntKind.wrap_u64]; omega
          have y4 : IntKind.u64.wrap ((x2 : Int) - (x3 : Int)) = (z : Int) := by rw [IntKind.wrap_u64]; omega
          have J0 := init NMH.out hz2 hD0
          obtain ⟨q9, hq9⟩ : ∃ q9, z / a = q9 := ⟨_, rfl⟩
          obtain ⟨r9, hr9⟩ : ∃ r9, z % a = r9 := ⟨_, rfl⟩
          rw [hq9, hr9] at J0
          have J0H := Lib.hid J0
          have e1 := J0.le
          have e2 := J0.lt
          have sm2 := J0.sum
          have y5 : IntKind.u64.wrap ((z : Int) / (a : Int)) = (q9 : Int) := by rw [← Int.natCast_ediv, hq9]; exact wrapN _ (by omega)
          obtain ⟨m9, hm9⟩ : ∃ m9, q9 * a = m9 := ⟨_, rfl⟩
          rw [hm9] at sm2
          have y6 : IntKind.u64.wrap ((q9 : Int) * (a : Int)) = (m9 : Int) := by rw [← Int.natCast_mul, hm9]; exact wrapN _ (by omega)
          have y7 : IntKind.u64.wrap ((z : Int) - (m9 : Int)) = (r9 : Int) := by rw [show (z : Int) - (m9 : Int) = (r9 : Int) by omega]; exact wrapN _ (by omega)
          clear J0 hq9 hr9 hm9 hdm hx1 hx2 hx0 hx3 QD hz

          go_wp2
          clear wq wr1 wP wR wD h20' h20 hPb hqp c1 c2
          obtain ⟨g1, hg1⟩ : ∃ g, g = q1 := ⟨_, rfl⟩
          subst hg1
          clear y1 y2 y3 y4 y5 y6 y7
          go_loopw [18, 16] (fun v18 v16 wr => ∃ q r : Nat, v18 = .int .u64 q ∧ v16 = .int .u64 r ∧ Inv Y a b z d0 q r ∧ w1 = wr) (fun v _ _ => (intOf v).toNat)
          case atStart => exact ⟨q9, r9, rfl, rfl, J0H.out, rfl⟩
          case round =>
            obtain ⟨q, r, rfl, rfl, hI, rfl⟩ := hrel
            have I := Lib.hid hI
            have TI := test_iff NMH.out hz2 hD0 hI
            have c1 := hI.le
            have c2 := hI.lt
            clear hI
            obtain ⟨P, hP⟩ : ∃ P, q * b = P := ⟨_, rfl⟩
            have hPb : P ≤ 4294967297 * 4294967295 := by rw [← hP]; exact Nat.mul_le_mul (by omega) (by omega)
            have wP : IntKind.u64.wrap ((q : Int) * (b : Int)) = (P : Int) := by rw [← Int.natCast_mul, hP]; exact wrapN _ (by omega)
            obtain ⟨R, hR⟩ : ∃ R, 4294967296 * r = R := ⟨_, rfl⟩
            have wR : IntKind.u64.wrap (4294967296 * (r : Int)) = (R : Int) := by rw [show 4294967296 * (r : Int) = (R : Int) by omega]; exact wrapN _ (by omega)
            obtain ⟨D, hD⟩ : ∃ D, R + d0 = D := ⟨_, rfl⟩
            have wD : IntKind.u64.wrap ((R : Int) + (d0 : Int)) = (D : Int) := by rw [show (R : Int) + (d0 : Int) = (D : Int) by omega]; exact wrapN _ (by omega)
            rw [hP, hR, hD] at TI
            by_cases hq : (z * 4294967296 + d0) / Y < q
            · by_cases hbq : 4294967296 ≤ q
              · have hbq' : (4294967296 : Int) ≤ (q : Int) := by omega
                obtain ⟨q1, hq1⟩ : ∃ q1, q - 1 = q1 := ⟨_, rfl⟩
                obtain ⟨r1, hr1⟩ : ∃ r1, r + a = r1 := ⟨_, rfl⟩
                have hqp : 0 < q := Nat.lt_of_le_of_lt (Nat.zero_le _) hq
                have wq : IntKind.u64.wrap ((q : Int) - 1) = (q1 : Int) := by rw [show (q : Int) - 1 = (q1 : Int) by omega]; exact wrapN _ (by omega)
                have wr1 : IntKind.u64.wrap ((r : Int) + (a : Int)) = (r1 : Int) := by rw [show (r : Int) + (a : Int) = (r1 : Int) by omega]; exact wrapN _ (by omega)
                by_cases h20 : 4294967296 ≤ r1
                · have QD := Lib.hid (show q1 = (z * 4294967296 + d0) / Y by rw [← hq1]; exact step_out NMH.out hz2 hD0 I.out hq (by rw [hr1]; exact h20))
                  have h20' : (4294967296 : Int) ≤ (r1 : Int) := by omega
                  clear I TI hq hq1 hr1 hP hR hD
                  have QF := Lib.hid QD.out
                  have lg := digit_lt NMH.out hu2 hD1
                  rw [← QE.out] at lg
                  have lq := digit_lt NMH.out hz2 hD0
                  rw [← QF.out] at lq
                  obtain ⟨z2, hz3⟩ : ∃ z2, (z * 4294967296 + d0) % Y = z2 := ⟨_, rfl⟩
                  have hzl : z2 < Y := by rw [← hz3]; exact Nat.mod_lt _ (by omega)
                  have hdm : Y * q1 + z2 = z * 4294967296 + d0 := by rw [← hz3, QF.out]; exact Nat.div_add_mod _ _
                  have sc := two_digits (x := u * 4294967296 + d1) (y := Y) (d0 := d0) (by omega)
                  rw [← QE.out, ← QZ.out, ← QF.out, hz3] at sc
                  obtain ⟨sc1, sc2⟩ := sc
                  have ee : (u * 4294967296 + d1) * 4294967296 + d0 = (hi * 18446744073709551616 + lo) * 2 ^ s := ee_of MV.out HLD.out
                  have sk := scaled (n := hi * 18446744073709551616 + lo) (y := y) (k := 2 ^ s) (Nat.pow_pos (by decide))
                  rw [ee, ← HY.out, sk.1] at sc1
                  rw [ee, ← HY.out] at sc2
                  have sk2 := sk.2
                  rw [← sc2] at sk2
                  have SC := Lib.hid sc1
                  have SK := Lib.hid sk2
                  clear sc1 sc2 sk sk2 ee
                  obtain ⟨k1, hk1⟩ : ∃ k1, g1 * 4294967296 = k1 := ⟨_, rfl⟩
                  have f1 : IntKind.u64.wrap ((g1 : Int) * 4294967296) = (k1 : Int) := by rw [show (g1 : Int) * 4294967296 = (k1 : Int) by omega]; exact wrapN _ (by omega)
                  obtain ⟨k2, hk2⟩ : ∃ k2, k1 + q1 = k2 := ⟨_, rfl⟩
                  have f2 : IntKind.u64.wrap ((k1 : Int) + (q1 : Int)) = (k2 : Int) := by rw [show (k1 : Int) + (q1 : Int) = (k2 : Int) by omega]; exact wrapN _ (by omega)
                  obtain ⟨p1, hp1⟩ : ∃ p1, z * 4294967296 % 18446744073709551616 = p1 := ⟨_, rfl⟩
                  have f3 : IntKind.u64.wrap ((z : Int) * 4294967296) = (p1 : Int) := by rw [IntKind.wrap_u64]; omega
                  obtain ⟨p2, hp2⟩ : ∃ p2, (p1 + d0) % 18446744073709551616 = p2 := ⟨_, rfl⟩
                  have f4 : IntKind.u64.wrap ((p1 : Int) + (d0 : Int)) = (p2 : Int) := by rw [IntKind.wrap_u64]; omega
                  obtain ⟨p0, hp0⟩ : ∃ p0, q1 * Y = p0 := ⟨_, rfl⟩
                  rw [Nat.mul_comm, hp0] at hdm
                  obtain ⟨p3, hp3⟩ : ∃ p3, p0 % 18446744073709551616 = p3 := ⟨_, rfl⟩
                  have f5 : IntKind.u64.wrap ((q1 : Int) * (Y : Int)) = (p3 : Int) := by rw [← Int.natCast_mul, hp0, IntKind.wrap_u64]; omega
                  have f6 : IntKind.u64.wrap ((p2 : Int) - (p3 : Int)) = (z2 : Int) := by rw [IntKind.wrap_u64]; omega
                  have KE := Lib.hid (show k2 = Qn by rw [← hk2, ← hk1, ← HQ.out]; exact SC.out)
                  have RE := Lib.hid (show (z2 : Int) / 2 ^ s = (Rn : Int) by rw [← HR.out, ← SK.out, Int.natCast_ediv, Int.natCast_pow]; rfl)
                  clear hk1 hk2 hp1 hp2 hp0 hp3 hdm hz3 QD
                  go_wp2
                  clear wq wr1 wP wR wD h20' h20 hPb hqp c1 c2
                  go_ret2
                  refine ⟨?_, Below.refl _ _⟩
                  rw [RE.out, KE.out]
                  rfl

                · have IN := Lib.hid (show Inv Y a b z d0 q1 r1 by rw [← hq1, ← hr1]; exact step_on I.out hq (by omega))
                  have h20' : ¬ (4294967296 : Int) ≤ (r1 : Int) := by omega
                  clear I TI hq hr1 hP hR hD
                  go_wp2
                  go_roundw
                  case rel => exact ⟨q1, r1, rfl, rfl, IN.out, by first | rfl | trivial⟩
                  case measure => simp [intOf]; omega

              · have hbq' : ¬ (4294967296 : Int) ≤ (q : Int) := by omega
                have hPD : (D : Int) < (P : Int) := by have := TI.2 hq; omega
                obtain ⟨q1, hq1⟩ : ∃ q1, q - 1 = q1 := ⟨_, rfl⟩
                obtain ⟨r1, hr1⟩ : ∃ r1, r + a = r1 := ⟨_, rfl⟩
                have hqp : 0 < q := Nat.lt_of_le_of_lt (Nat.zero_le _) hq
                have wq : IntKind.u64.wrap ((q : Int) - 1) = (q1 : Int) := by rw [show (q : Int) - 1 = (q1 : Int) by omega]; exact wrapN _ (by omega)
                have wr1 : IntKind.u64.wrap ((r : Int) + (a : Int)) = (r1 : Int) := by rw [show (r : Int) + (a : Int) = (r1 : Int) by omega]; exact wrapN _ (by omega)
                by_cases h20 : 4294967296 ≤ r1
                · have QD := Lib.hid (show q1 = (z * 4294967296 + d0) / Y by rw [← hq1]; exact step_out NMH.out hz2 hD0 I.out hq (by rw [hr1]; exact h20))
                  have h20' : (4294967296 : Int) ≤ (r1 : Int) := by omega
                  clear I TI hq hq1 hr1 hP hR hD
                  have QF := Lib.hid QD.out
                  have lg := digit_lt NMH.out hu2 hD1
                  rw [← QE.out] at lg
                  have lq := digit_lt NMH.out hz2 hD0
                  rw [← QF.out] at lq
                  obtain ⟨z2, hz3⟩ : ∃ z2, (z * 4294967296 + d0) % Y = z2 := ⟨_, rfl⟩
                  have hzl : z2 < Y := by rw [← hz3]; exact Nat.mod_lt _ (by omega)
                  have hdm : Y * q1 + z2 = z * 4294967296 + d0 := by rw [← hz3, QF.out]; exact Nat.div_add_mod _ _
                  have sc := two_digits (x := u * 4294967296 + d1) (y := Y) (d0 := d0) (by omega)
                  rw [← QE.out, ← QZ.out, ← QF.out, hz3] at sc
                  obtain ⟨sc1, sc2⟩ := sc
                  have ee : (u * 4294967296 + d1) * 4294967296 + d0 = (hi * 18446744073709551616 + lo) * 2 ^ s := ee_of MV.out HLD.out
                  have sk := scaled (n := hi * 18446744073709551616 + lo) (y := y) (k := 2 ^ s) (Nat.pow_pos (by decide))
                  rw [ee, ← HY.out, sk.1] at sc1
                  rw [ee, ← HY.out] at sc2
                  have sk2 := sk.2
                  rw [← sc2] at sk2
                  have SC := Lib.hid sc1
                  have SK := Lib.hid sk2
                  clear sc1 sc2 sk sk2 ee
                  obtain ⟨k1, hk1⟩ : ∃ k1, g1 * 4294967296 = k1 := ⟨_, rfl⟩
                  have f1 : IntKind.u64.wrap ((g1 : Int) * 4294967296) = (k1 : Int) := by rw [show (g1 : Int) * 4294967296 = (k1 : Int) by omega]; exact wrapN _ (by omega)
                  obtain ⟨k2, hk2⟩ : ∃ k2, k1 + q1 = k2 := ⟨_, rfl⟩
                  have f2 : IntKind.u64.wrap ((k1 : Int) + (q1 : Int)) = (k2 : Int) := by rw [show (k1 : Int) + (q1 : Int) = (k2 : Int) by omega]; exact wrapN _ (by omega)
                  obtain ⟨p1, hp1⟩ : ∃ p1, z * 4294967296 % 18446744073709551616 = p1 := ⟨_, rfl⟩
                  have f3 : IntKind.u64.wrap ((z : Int) * 4294967296) = (p1 : Int) := by rw [IntKind.wrap_u64]; omega
                  obtain ⟨p2, hp2⟩ : ∃ p2, (p1 + d0) % 18446744073709551616 = p2 := ⟨_, rfl⟩
                  have f4 : IntKind.u64.wrap ((p1 : Int) + (d0 : Int)) = (p2 : Int) := by rw [IntKind.wrap_u64]; omega
                  obtain ⟨p0, hp0⟩ : ∃ p0, q1 * Y = p0 := ⟨_, rfl⟩
                  rw [Nat.mul_comm, hp0] at hdm
                  obtain ⟨p3, hp3⟩ : ∃ p3, p0 % 18446744073709551616 = p3 := ⟨_, rfl⟩
                  have f5 : IntKind.u64.wrap ((q1 : Int) * (Y : Int)) = (p3 : Int) := by rw [← Int.natCast_mul, hp0, IntKind.wrap_u64]; omega
                  have f6 : IntKind.u64.wrap ((p2 : Int) - (p3 : Int)) = (z2 : Int) := by rw [IntKind.wrap_u64]; omega
                  have KE := Lib.hid (show k2 = Qn by rw [← hk2, ← hk1, ← HQ.out]; exact SC.out)
                  have RE := Lib.hid (show (z2 : Int) / 2 ^ s = (Rn : Int) by rw [← HR.out, ← SK.out, Int.natCast_ediv, Int.natCast_pow]; rfl)
                  clear hk1 hk2 hp1 hp2 hp0 hp3 hdm hz3 QD
                  go_wp2
                  clear wq wr1 wP wR wD h20' h20 hPb hqp c1 c2
                  go_ret2
                  refine ⟨?_, Below.refl _ _⟩
                  rw [RE.out, KE.out]
                  rfl

                · have IN := Lib.hid (show Inv Y a b z d0 q1 r1 by rw [← hq1, ← hr1]; exact step_on I.out hq (by omega))
                  have h20' : ¬ (4294967296 : Int) ≤ (r1 : Int) := by omega
                  clear I TI hq hr1 hP hR hD
                  go_wp2
                  go_roundw
                  case rel => exact ⟨q1, r1, rfl, rfl, IN.out, by first | rfl | trivial⟩
                  case measure => simp [intOf]; omega

            · have QD := Lib.hid (done I.out hq)
              have hn := fun h => hq (TI.1 h)
              have hbq' : ¬ (4294967296 : Int) ≤ (q : Int) := fun h => hn (.inl (by omega))
              have hPD : ¬ (D : Int) < (P : Int) := fun h => hn (.inr (by omega))
              clear I TI hq hP hR hD hn
              have QF := Lib.hid QD.out
              have lg := digit_lt NMH.out hu2 hD1
              rw [← QE.out] at lg
              have lq := digit_lt NMH.out hz2 hD0
              rw [← QF.out] at lq
              obtain ⟨z2, hz3⟩ : ∃ z2, (z * 4294967296 + d0) % Y = z2 := ⟨_, rfl⟩
              have hzl : z2 < Y := by rw [← hz3]; exact Nat.mod_lt _ (by omega)
              have hdm : Y * q + z2 = z * 4294967296 + d0 := by rw [← hz3, QF.out]; exact Nat.div_add_mod _ _
              have sc := two_digits (x := u * 4294967296 + d1) (y := Y) (d0 := d0) (by omega)
              rw [← QE.out, ← QZ.out, ← QF.out, hz3] at sc
              obtain ⟨sc1, sc2⟩ := sc
              have ee : (u * 4294967296 + d1) * 4294967296 + d0 = (hi * 18446744073709551616 + lo) * 2 ^ s := ee_of MV.out HLD.out
              have sk := scaled (n := hi * 18446744073709551616 + lo) (y := y) (k := 2 ^ s) (Nat.pow_pos (by decide))
              rw [ee, ← HY.out, sk.1] at sc1
              rw [ee, ← HY.out] at sc2
              have sk2 := sk.2
              rw [← sc2] at sk2
              have SC := Lib.hid sc1
              have SK := Lib.hid sk2
              clear sc1 sc2 sk sk2 ee
              obtain ⟨k1, hk1⟩ : ∃ k1, g1 * 4294967296 = k1 := ⟨_, rfl⟩
              have f1 : IntKind.u64.wrap ((g1 : Int) * 4294967296) = (k1 : Int) := by rw [show (g1 : Int) * 4294967296 = (k1 : Int) by omega]; exact wrapN _ (by omega)
              obtain ⟨k2, hk2⟩ : ∃ k2, k1 + q = k2 := ⟨_, rfl⟩
              have f2 : IntKind.u64.wrap ((k1 : Int) + (q : Int)) = (k2 : Int) := by rw [show (k1 : Int) + (q : Int) = (k2 : Int) by omega]; exact wrapN _ (by omega)
              obtain ⟨p1, hp1⟩ : ∃ p1, z * 4294967296 % 18446744073709551616 = p1 := ⟨_, rfl⟩
              have f3 : IntKind.u64.wrap ((z : Int) * 4294967296) = (p1 : Int) := by rw [IntKind.wrap_u64]; omega
              obtain ⟨p2, hp2⟩ : ∃ p2, (p1 + d0) % 18446744073709551616 = p2 := ⟨_, rfl⟩
              have f4 : IntKind.u64.wrap ((p1 : Int) + (d0 : Int)) = (p2 : Int) := by rw [IntKind.wrap_u64]; omega
              obtain ⟨p0, hp0⟩ : ∃ p0, q * Y = p0 := ⟨_, rfl⟩
              rw [Nat.mul_comm, hp0] at hdm
              obtain ⟨p3, hp3⟩ : ∃ p3, p0 % 18446744073709551616 = p3 := ⟨_, rfl⟩
              have f5 : IntKind.u64.wrap ((q : Int) * (Y : Int)) = (p3 : Int) := by rw [← Int.natCast_mul, hp0, IntKind.wrap_u64]; omega
              have f6 : IntKind.u64.wrap ((p2 : Int) - (p3 : Int)) = (z2 : Int) := by rw [IntKind.wrap_u64]; omega
              have KE := Lib.hid (show k2 = Qn by rw [← hk2, ← hk1, ← HQ.out]; exact SC.out)
              have RE := Lib.hid (show (z2 : Int) / 2 ^ s = (Rn : Int) by rw [← HR.out, ← SK.out, Int.natCast_ediv, Int.natCast_pow]; rfl)
              clear hk1 hk2 hp1 hp2 hp0 hp3 hdm hz3 QD
              go_wp2
              clear wP wR wD hbq' hPD hPb c1 c2
              go_ret2
              refine ⟨?_, Below.refl _ _⟩
              rw [RE.out, KE.out]
              rfl


        · have IN := Lib.hid (show Inv Y a b u d1 q1 r1 by rw [← hq1, ← hr1]; exact step_on I.out hq (by omega))
          have h20' : ¬ (4294967296 : Int) ≤ (r1 : Int) := by omega
          clear I TI hq hr1 hP hR hD
          go_wp2
          go_roundw
          case rel => exact ⟨q1, r1, rfl, rfl, IN.out, by first | rfl | trivial⟩
          case measure => simp [intOf]; omega

    · have QD := Lib.hid (done I.out hq)
      have hn := fun h => hq (TI.1 h)
      have hbq' : ¬ (4294967296 : Int) ≤ (q : Int) := fun h => hn (.inl (by omega))
      have hPD : ¬ (D : Int) < (P : Int) := fun h => hn (.inr (by omega))
      clear I TI hq hP hR hD hn
      obtain ⟨z, hz⟩ : ∃ z, (u * 4294967296 + d1) % Y = z := ⟨_, rfl⟩
      have QE := Lib.hid QD.out
      have QZ := Lib.hid hz.symm
      have hz2 : z < Y := by rw [← hz]; exact Nat.mod_lt _ (by omega)
      have hdm : Y * q + z = u * 4294967296 + d1 := by rw [← hz, QE.out]; exact Nat.div_add_mod _ _
      obtain ⟨x1, hx1⟩ : ∃ x1, u * 4294967296 % 18446744073709551616 = x1 := ⟨_, rfl⟩
      have y1 : IntKind.u64.wrap ((u : Int) * 4294967296) = (x1 : Int) := by rw [IntKind.wrap_u64]; omega
      obtain ⟨x2, hx2⟩ : ∃ x2, (x1 + d1) % 18446744073709551616 = x2 := ⟨_, rfl⟩
      have y2 : IntKind.u64.wrap ((x1 : Int) + (d1 : Int)) = (x2 : Int) := by rw [IntKind.wrap_u64]; omega
      obtain ⟨x0, hx0⟩ : ∃ x0, q * Y = x0 := ⟨_, rfl⟩
      rw [Nat.mul_comm, hx0] at hdm
      obtain ⟨x3, hx3⟩ : ∃ x3, x0 % 18446744073709551616 = x3 := ⟨_, rfl⟩
      have y3 : IntKind.u64.wrap ((q : Int) * (Y : Int)) = (x3 : Int) := by rw [← Int.natCast_mul, hx0, IntKind.wrap_u64]; omega
      have y4 : IntKind.u64.wrap ((x2 : Int) - (x3 : Int)) = (z : Int) := by rw [IntKind.wrap_u64]; omega
      have J0 := init NMH.out hz2 hD0
      obtain ⟨q9, hq9⟩ : ∃ q9, z / a = q9 := ⟨_, rfl⟩
      obtain ⟨r9, hr9⟩ : ∃ r9, z % a = r9 := ⟨_, rfl⟩
      rw [hq9, hr9] at J0
      have J0H := Lib.hid J0
      have e1 := J0.le
      have e2 := J0.lt
      have sm2 := J0.sum
      have y5 : IntKind.u64.wrap ((z : Int) / (a : Int)) = (q9 : Int) := by rw [← Int.natCast_ediv, hq9]; exact wrapN _ (by omega)
      obtain ⟨m9, hm9⟩ : ∃ m9, q9 * a = m9 := ⟨_, rfl⟩
      rw [hm9] at sm2
      have y6 : IntKind.u64.wrap ((q9 : Int) * (a : Int)) = (m9 : Int) := by rw [← Int.natCast_mul, hm9]; exact wrapN _ (by omega)
      have y7 : IntKind.u64.wrap ((z : Int) - (m9 : Int)) = (r9 : Int) := by rw [show (z : Int) - (m9 : Int) = (r9 : Int) by omega]; exact wrapN _ (by omega)
      clear J0 hq9 hr9 hm9 hdm hx1 hx2 hx0 hx3 QD hz

      go_wp2
      clear wP wR wD hbq' hPD hPb c1 c2
      obtain ⟨g1, hg1⟩ : ∃ g, g = q := ⟨_, rfl⟩
      subst hg1
      clear y1 y2 y3 y4 y5 y6 y7
      go_loopw [18, 16] (fun v18 v16 wr => ∃ q r : Nat, v18 = .int .u64 q ∧ v16 = .int .u64 r ∧ Inv Y a b z d0 q r ∧ w1 = wr) (fun v _ _ => (intOf v).toNat)
      case atStart => exact ⟨q9, r9, rfl, rfl, J0H.out, rfl⟩
      case round =>
        obtain ⟨q, r, rfl, rfl, hI, rfl⟩ := hrel
        have I := Lib.hid hI
        have TI := test_iff NMH.out hz2 hD0 hI
        have c1 := hI.le
        have c2 := hI.lt
        clear hI
        obtain ⟨P, hP⟩ : ∃ P, q * b = P := ⟨_, rfl⟩
        have hPb : P ≤ 4294967297 * 4294967295 := by rw [← hP]; exact Nat.mul_le_mul (by omega) (by omega)
        have wP : IntKind.u64.wrap ((q : Int) * (b : Int)) = (P : Int) := by rw [← Int.natCast_mul, hP]; exact wrapN _ (by omega)
        obtain ⟨R, hR⟩ : ∃ R, 4294967296 * r = R := ⟨_, rfl⟩
        have wR : IntKind.u64.wrap (4294967296 * (r : Int)) = (R : Int) := by rw [show 4294967296 * (r : Int) = (R : Int) by omega]; exact wrapN _ (by omega)
        obtain ⟨D, hD⟩ : ∃ D, R + d0 = D := ⟨_, rfl⟩
        have wD : IntKind.u64.wrap ((R : Int) + (d0 : Int)) = (D : Int) := by rw [show (R : Int) + (d0 : Int) = (D : Int) by omega]; exact wrapN _ (by omega)
        rw [hP, hR, hD] at TI
        by_cases hq : (z * 4294967296 + d0) / Y < q
        · by_cases hbq : 4294967296 ≤ q
          · have hbq' : (4294967296 : Int) ≤ (q : Int) := by omega
            obtain ⟨q1, hq1⟩ : ∃ q1, q - 1 = q1 := ⟨_, rfl⟩
            obtain ⟨r1, hr1⟩ : ∃ r1, r + a = r1 := ⟨_, rfl⟩
            have hqp : 0 < q := Nat.lt_of_le_of_lt (Nat.zero_le _) hq
            have wq : IntKind.u64.wrap ((q : Int) - 1) = (q1 : Int) := by rw [show (q : Int) - 1 = (q1 : Int) by omega]; exact wrapN _ (by omega)
            have wr1 : IntKind.u64.wrap ((r : Int) + (a : Int)) = (r1 : Int) := by rw [show (r : Int) + (a : Int) = (r1 : Int) by omega]; exact wrapN _ (by omega)
            by_cases h20 : 4294967296 ≤ r1
            · have QD := Lib.hid (show q1 = (z * 4294967296 + d0) / Y by rw [← hq1]; exact step_out NMH.out hz2 hD0 I.out hq (by rw [hr1]; exact h20))
              have h20' : (4294967296 : Int) ≤ (r1 : Int) := by omega
              clear I TI hq hq1 hr1 hP hR hD
              have QF := Lib.hid QD.out
              have lg := digit_lt NMH.out hu2 hD1
              rw [← QE.out] at lg
              have lq := digit_lt NMH.out hz2 hD0
              rw [← QF.out] at lq
              obtain ⟨z2, hz3⟩ : ∃ z2, (z * 4294967296 + d0) % Y = z2 := ⟨_, rfl⟩
              have hzl : z2 < Y := by rw [← hz3]; exact Nat.mod_lt _ (by omega)
              have hdm : Y * q1 + z2 = z * 4294967296 + d0 := by rw [← hz3, QF.out]; exact Nat.div_add_mod _ _
              have sc := two_digits (x := u * 4294967296 + d1) (y := Y) (d0 := d0) (by omega)
              rw [← QE.out, ← QZ.out, ← QF.out, hz3] at sc
              obtain ⟨sc1, sc2⟩ := sc
              have ee : (u * 4294967296 + d1) * 4294967296 + d0 = (hi * 18446744073709551616 + lo) * 2 ^ s := ee_of MV.out HLD.out
              have sk := scaled (n := hi * 18446744073709551616 + lo) (y := y) (k := 2 ^ s) (Nat.pow_pos (by decide))
              rw [ee, ← HY.out, sk.1] at sc1
              rw [ee, ← HY.out] at sc2
              have sk2 := sk.2
              rw [← sc2] at sk2
              have SC := Lib.hid sc1
              have SK := Lib.hid sk2
              clear sc1 sc2 sk sk2 ee
              obtain ⟨k1, hk1⟩ : ∃ k1, g1 * 4294967296 = k1 := ⟨_, rfl⟩
              have f1 : IntKind.u64.wrap ((g1 : Int) * 4294967296) = (k1 : Int) := by rw [show (g1 : Int) * 4294967296 = (k1 : Int) by omega]; exact wrapN _ (by omega)
              obtain ⟨k2, hk2⟩ : ∃ k2, k1 + q1 = k2 := ⟨_, rfl⟩
              have f2 : IntKind.u64.wrap ((k1 : Int) + (q1 : Int)) = (k2 : Int) := by rw [show (k1 : Int) + (q1 : Int) = (k2 : Int) by omega]; exact wrapN _ (by omega)
              obtain ⟨p1, hp1⟩ : ∃ p1, z * 4294967296 % 18446744073709551616 = p1 := ⟨_, rfl⟩
              have f3 : IntKind.u64.wrap ((z : Int) * 4294967296) = (p1 : Int) := by rw [IntKind.wrap_u64]; omega
              obtain ⟨p2, hp2⟩ : ∃ p2, (p1 + d0) % 18446744073709551616 = p2 := ⟨_, rfl⟩
              have f4 : IntKind.u64.wrap ((p1 : Int) + (d0 : Int)) = (p2 : Int) := by rw [IntKind.wrap_u64]; omega
              obtain ⟨p0, hp0⟩ : ∃ p0, q1 * Y = p0 := ⟨_, rfl⟩
              rw [Nat.mul_comm, hp0] at hdm
              obtain ⟨p3, hp3⟩ : ∃ p3, p0 % 18446744073709551616 = p3 := ⟨_, rfl⟩
              have f5 : IntKind.u64.wrap ((q1 : Int) * (Y : Int)) = (p3 : Int) := by rw [← Int.natCast_mul, hp0, IntKind.wrap_u64]; omega
              have f6 : IntKind.u64.wrap ((p2 : Int) - (p3 : Int)) = (z2 : Int) := by rw [IntKind.wrap_u64]; omega
              have KE := Lib.hid (show k2 = Qn by rw [← hk2, ← hk1, ← HQ.out]; exact SC.out)
              have RE := Lib.hid (show (z2 : Int) / 2 ^ s = (Rn : Int) by rw [← HR.out, ← SK.out, Int.natCast_ediv, Int.natCast_pow]; rfl)
              clear hk1 hk2 hp1 hp2 hp0 hp3 hdm hz3 QD
              go_wp2
              clear wq wr1 wP wR wD h20' h20 hPb hqp c1 c2
              go_ret2
              refine ⟨?_, Below.refl _ _⟩
              rw [RE.out, KE.out]
              rfl

            · have IN := Lib.hid (show Inv Y a b z d0 q1 r1 by rw [← hq1, ← hr1]; exact step_on I.out hq (by omega))
              have h20' : ¬ (4294967296 : Int) ≤ (r1 : Int) := by omega
              clear I TI hq hr1 hP hR hD
              go_wp2
              go_roundw
              case rel => exact ⟨q1, r1, rfl, rfl, IN.out, by first | rfl | trivial⟩
              case measure => simp [intOf]; omega

          · have hbq' : ¬ (4294967296 : Int) ≤ (q : Int) := by omega
            have hPD : (D : Int) < (P : Int) := by have := TI.2 hq; omega
            obtain ⟨q1, hq1⟩ : ∃ q1, q - 1 = q1 := ⟨_, rfl⟩
            obtain ⟨r1, hr1⟩ : ∃ r1, r + a = r1 := ⟨_, rfl⟩
            have hqp : 0 < q := Nat.lt_of_le_of_lt (Nat.zero_le _) hq
            have wq : IntKind.u64.wrap ((q : Int) - 1) = (q1 : Int) := by rw [show (q : Int) - 1 = (q1 : Int) by omega]; exact wrapN _ (by omega)
            have wr1 : IntKind.u64.wrap ((r : Int) + (a : Int)) = (r1 : Int) := by rw [show (r : Int) + (a : Int) = (r1 : Int) by omega]; exact wrapN _ (by omega)
            by_cases h20 : 4294967296 ≤ r1
            · have QD := Lib.hid (show q1 = (z * 4294967296 + d0) / Y by rw [← hq1]; exact step_out NMH.out hz2 hD0 I.out hq (by rw [hr1]; exact h20))
              have h20' : (4294967296 : Int) ≤ (r1 : Int) := by omega
              clear I TI hq hq1 hr1 hP hR hD
              have QF := Lib.hid QD.out
              have lg := digit_lt NMH.out hu2 hD1
              rw [← QE.out] at lg
              have lq := digit_lt NMH.out hz2 hD0
              rw [← QF.out] at lq
              obtain ⟨z2, hz3⟩ : ∃ z2, (z * 4294967296 + d0) % Y = z2 := ⟨_, rfl⟩
              have hzl : z2 < Y := by rw [← hz3]; exact Nat.mod_lt _ (by omega)
              have hdm : Y * q1 + z2 = z * 4294967296 + d0 := by rw [← hz3, QF.out]; exact Nat.div_add_mod _ _
              have sc := two_digits (x := u * 4294967296 + d1) (y := Y) (d0 := d0) (by omega)
              rw [← QE.out, ← QZ.out, ← QF.out, hz3] at sc
              obtain ⟨sc1, sc2⟩ := sc
              have ee : (u * 4294967296 + d1) * 4294967296 + d0 = (hi * 18446744073709551616 + lo) * 2 ^ s := ee_of MV.out HLD.out
              have sk := scaled (n := hi * 18446744073709551616 + lo) (y := y) (k := 2 ^ s) (Nat.pow_pos (by decide))
              rw [ee, ← HY.out, sk.1] at sc1
              rw [ee, ← HY.out] at sc2
              have sk2 := sk.2
              rw [← sc2] at sk2
              have SC := Lib.hid sc1
              have SK := Lib.hid sk2
              clear sc1 sc2 sk sk2 ee
              obtain ⟨k1, hk1⟩ : ∃ k1, g1 * 4294967296 = k1 := ⟨_, rfl⟩
              have f1 : IntKind.u64.wrap ((g1 : Int) * 4294967296) = (k1 : Int) := by rw [show (g1 : Int) * 4294967296 = (k1 : Int) by omega]; exact wrapN _ (by omega)
              obtain ⟨k2, hk2⟩ : ∃ k2, k1 + q1 = k2 := ⟨_, rfl⟩
              have f2 : IntKind.u64.wrap ((k1 : Int) + (q1 : Int)) = (k2 : Int) := by rw [show (k1 : Int) + (q1 : Int) = (k2 : Int) by omega]; exact wrapN _ (by omega)
              obtain ⟨p1, hp1⟩ : ∃ p1, z * 4294967296 % 18446744073709551616 = p1 := ⟨_, rfl⟩
              have f3 : IntKind.u64.wrap ((z : Int) * 4294967296) = (p1 : Int) := by rw [IntKind.wrap_u64]; omega
              obtain ⟨p2, hp2⟩ : ∃ p2, (p1 + d0) % 18446744073709551616 = p2 := ⟨_, rfl⟩
              have f4 : IntKind.u64.wrap ((p1 : Int) + (d0 : Int)) = (p2 : Int) := by rw [IntKind.wrap_u64]; omega
              obtain ⟨p0, hp0⟩ : ∃ p0, q1 * Y = p0 := ⟨_, rfl⟩
              rw [Nat.mul_comm, hp0] at hdm
              obtain ⟨p3, hp3⟩ : ∃ p3, p0 % 18446744073709551616 = p3 := ⟨_, rfl⟩
              have f5 : IntKind.u64.wrap ((q1 : Int) * (Y : Int)) = (p3 : Int) := by rw [← Int.natCast_mul, hp0, IntKind.wrap_u64]; omega
              have f6 : IntKind.u64.wrap ((p2 : Int) - (p3 : Int)) = (z2 : Int) := by rw [IntKind.wrap_u64]; omega
              have KE := Lib.hid (show k2 = Qn by rw [← hk2, ← hk1, ← HQ.out]; exact SC.out)
              have RE := Lib.hid (show (z2 : Int) / 2 ^ s = (Rn : Int) by rw [← HR.out, ← SK.out, Int.natCast_ediv, Int.natCast_pow]; rfl)
              clear hk1 hk2 hp1 hp2 hp0 hp3 hdm hz3 QD
              go_wp2
              clear wq wr1 wP wR wD h20' h20 hPb hqp c1 c2
              go_ret2
              refine ⟨?_, Below.refl _ _⟩
              rw [RE.out, KE.out]
              rfl

            · have IN := Lib.hid (show Inv Y a b z d0 q1 r1 by rw [← hq1, ← hr1]; exact step_on I.out hq (by omega))
              have h20' : ¬ (4294967296 : Int) ≤ (r1 : Int) := by omega
              clear I TI hq hr1 hP hR hD
              go_wp2
              go_roundw
              case rel => exact ⟨q1, r1, rfl, rfl, IN.out, by first | rfl | trivial⟩
              case measure => simp [intOf]; omega

        · have QD := Lib.hid (done I.out hq)
          have hn := fun h => hq (TI.1 h)
          have hbq' : ¬ (4294967296 : Int) ≤ (q : Int) := fun h => hn (.inl (by omega))
          have hPD : ¬ (D : Int) < (P : Int) := fun h => hn (.inr (by omega))
          clear I TI hq hP hR hD hn
          have QF := Lib.hid QD.out
          have lg := digit_lt NMH.out hu2 hD1
          rw [← QE.out] at lg
          have lq := digit_lt NMH.out hz2 hD0
          rw [← QF.out] at lq
          obtain ⟨z2, hz3⟩ : ∃ z2, (z * 4294967296 + d0) % Y = z2 := ⟨_, rfl⟩
          have hzl : z2 < Y := by rw [← hz3]; exact Nat.mod_lt _ (by omega)
          have hdm : Y * q + z2 = z * 4294967296 + d0 := by rw [← hz3, QF.out]; exact Nat.div_add_mod _ _
          have sc := two_digits (x := u * 4294967296 + d1) (y := Y) (d0 := d0) (by omega)
          rw [← QE.out, ← QZ.out, ← QF.out, hz3] at sc
          obtain ⟨sc1, sc2⟩ := sc
          have ee : (u * 4294967296 + d1) * 4294967296 + d0 = (hi * 18446744073709551616 + lo) * 2 ^ s := ee_of MV.out HLD.out
          have sk := scaled (n := hi * 18446744073709551616 + lo) (y := y) (k := 2 ^ s) (Nat.pow_pos (by decide))
          rw [ee, ← HY.out, sk.1] at sc1
          rw [ee, ← HY.out] at sc2
          have sk2 := sk.2
          rw [← sc2] at sk2
          have SC := Lib.hid sc1
          have SK := Lib.hid sk2
          clear sc1 sc2 sk sk2 ee
          obtain ⟨k1, hk1⟩ : ∃ k1, g1 * 4294967296 = k1 := ⟨_, rfl⟩
          have f1 : IntKind.u64.wrap ((g1 : Int) * 4294967296) = (k1 : Int) := by rw [show (g1 : Int) * 4294967296 = (k1 : Int) by omega]; exact wrapN _ (by omega)
          obtain ⟨k2, hk2⟩ : ∃ k2, k1 + q = k2 := ⟨_, rfl⟩
          have f2 : IntKind.u64.wrap ((k1 : Int) + (q : Int)) = (k2 : Int) := by rw [show (k1 : Int) + (q : Int) = (k2 : Int) by omega]; exact wrapN _ (by omega)
          obtain ⟨p1, hp1⟩ : ∃ p1, z * 4294967296 % 18446744073709551616 = p1 := ⟨_, rfl⟩
          have f3 : IntKind.u64.wrap ((z : Int) * 4294967296) = (p1 : Int) := by rw [IntKind.wrap_u64]; omega
          obtain ⟨p2, hp2⟩ : ∃ p2, (p1 + d0) % 18446744073709551616 = p2 := ⟨_, rfl⟩
          have f4 : IntKind.u64.wrap ((p1 : Int) + (d0 : Int)) = (p2 : Int) := by rw [IntKind.wrap_u64]; omega
          obtain ⟨p0, hp0⟩ : ∃ p0, q * Y = p0 := ⟨_, rfl⟩
          rw [Nat.mul_comm, hp0] at hdm
          obtain ⟨p3, hp3⟩ : ∃ p3, p0 % 18446744073709551616 = p3 := ⟨_, rfl⟩
          have f5 : IntKind.u64.wrap ((q : Int) * (Y : Int)) = (p3 : Int) := by rw [← Int.natCast_mul, hp0, IntKind.wrap_u64]; omega
          have f6 : IntKind.u64.wrap ((p2 : Int) - (p3 : Int)) = (z2 : Int) := by rw [IntKind.wrap_u64]; omega
          have KE := Lib.hid (show k2 = Qn by rw [← hk2, ← hk1, ← HQ.out]; exact SC.out)
          have RE := Lib.hid (show (z2 : Int) / 2 ^ s = (Rn : Int) by rw [← HR.out, ← SK.out, Int.natCast_ediv, Int.natCast_pow]; rfl)
          clear hk1 hk2 hp1 hp2 hp0 hp3 hdm hz3 QD
          go_wp2
          clear wP wR wD hbq' hPD hPb c1 c2
          go_ret2
          refine ⟨?_, Below.refl _ _⟩
          rw [RE.out, KE.out]
          rfl


end Go.Proofs.YtlfpfeidaohjmaaDoor
