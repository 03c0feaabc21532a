/- A kick: each speed gains all pulls. -/
import Derived.Test.YtlfpfeidaohjmaaDoorBw8
import Derived.Deep.Cut
set_option linter.unusedSimpArgs false
set_option linter.unusedVariables false
namespace Go.Proofs.YtlfpfeidaohjmaaDoor
open Go.RowKit Go.Grow Go.Bo

theorem more_neg1 (a b : C3) : a.more (-1) b = a.less b := by unfold C3.more C3.less; exact C3.ext (by simp only; omega) (by simp only; omega) (by simp only; omega)
theorem pullC_walk (d : C3) (w : World) :
    Calls Tryd.prog 141 #[vec d] w fun e w' => e = .returned (vec (pullC d)) ∧ Below w.heap.size w w' := pull_walk d.x d.y d.z w
/-- The bodies when body i has looked at k others, and those ahead of it at all. -/
def kiB (n : Nat) (s : Int) (B : Nat → Bd) (i k : Nat) : Nat → Bd := fun j => ⟨(B j).p, if j < i then kv s B j n else if j = i then kv s B i k else (B j).v, (B j).m⟩
theorem kiB_start (n : Nat) (s : Int) (B : Nat → Bd) : kiB n s B 0 0 = B := by
  funext j
  refine Bd.ext rfl ?_ rfl
  unfold kiB
  simp only
  rw [if_neg (by omega)]
  split
  · rename_i e; subst e; exact kv_zero s B 0
  · rfl
theorem kiB_next (n : Nat) (s : Int) (B : Nat → Bd) (i : Nat) : kiB n s B i n = kiB n s B (i + 1) 0 := by
  funext j
  refine Bd.ext rfl ?_ rfl
  unfold kiB
  simp only
  by_cases h : j < i
  · rw [if_pos h, if_pos (by omega)]
  · rw [if_neg h]
    by_cases e : j = i
    · subst e; rw [if_pos rfl, if_pos (by omega)]
    · rw [if_neg e, if_neg (by omega)]
      split
      · rename_i e2; subst e2; exact (kv_zero s B _).symm
      · rfl
theorem kiB_end (n : Nat) (s : Int) (B : Nat → Bd) (k j : Nat) (hj : j < n) : kiB n s B n k j = kick n s B j := by
  refine Bd.ext rfl ?_ rfl
  unfold kiB kick
  simp only
  rw [if_pos hj]
theorem kiB_self (n : Nat) (s : Int) (B : Nat → Bd) (i : Nat) : kiB n s B i i = kiB n s B i (i + 1) := by
  funext j
  refine Bd.ext rfl ?_ rfl
  unfold kiB
  simp only
  split
  · rfl
  · split
    · exact (kv_self s B i).symm
    · rfl
theorem kiB_v (n : Nat) (s : Int) (B : Nat → Bd) (i k : Nat) : (kiB n s B i k i).v = kv s B i k := by
  unfold kiB; simp
theorem kiB_set (n : Nat) (s : Int) (B : Nat → Bd) {i k : Nat} (h : i ≠ k) : updV (kiB n s B i k) i ((kv s B i k).more (s * (B k).m) (pv B i k)) = kiB n s B i (k + 1) := by
  rw [← kv_succ s B h]
  funext j
  unfold updV
  by_cases e : j = i
  · subst e
    rw [if_pos rfl]
    refine Bd.ext rfl ?_ rfl
    unfold kiB; simp
  · rw [if_neg e]
    refine Bd.ext rfl ?_ rfl
    unfold kiB
    simp only
    split
    · rfl
    · first | rfl | (rw [if_neg e, if_neg e]) | simp [e]

/-- No number grows too great. -/
structure Mild (n : Nat) (s : Int) (B : Nat → Bd) : Prop where
  hn : n ≤ 12
  hs : s = 1 ∨ s = -1
  p : okP n B
  m : okM n B
  v : ∀ i, i < n → (B i).v.le 1125899906842624
theorem Mild.sm {n : Nat} {s : Int} {B : Nat → Bd} (h : Mild n s B) {k : Nat} (hk : k < n) : -65536 ≤ s * (B k).m ∧ s * (B k).m ≤ 65536 := by
  obtain ⟨h1, h2⟩ := h.m k hk
  rcases h.hs with e | e <;> subst e <;> omega
theorem Mild.fits {n : Nat} {s : Int} {B : Nat → Bd} (h : Mild n s B) {i k : Nat} (hi : i < n) (hk : k < n) (hik : i ≠ k) : Fits (kv s B i k) (s * (B k).m) (pv B i k) := by
  have h1 := kv_bd h.hs h.hn h.m (i := i) (k := k + 1) (by omega) (h.v i hi)
  rw [kv_succ s B hik] at h1
  refine ⟨?_, h1.mono (by omega)⟩
  obtain ⟨m1, m2⟩ := h.sm hk
  obtain ⟨⟨p1, p2⟩, ⟨p3, p4⟩, ⟨p5, p6⟩⟩ := pullC_bd ((B k).p.less (B i).p)
  have key : ∀ a p : Int, -65536 ≤ a → a ≤ 65536 → -8388608 ≤ p → p ≤ 8388608 → -549755813888 ≤ a * p ∧ a * p ≤ 549755813888 := fun a p h1 h2 h3 h4 => by
    rcases Int.le_total 0 a with h0 | h0
    · have := mul_bd h0 h2 h3 h4 (by decide); omega
    · have := mul_bd (m := -a) (by omega) (show -a ≤ 65536 by omega) h3 h4 (by decide)
      rw [Int.neg_mul] at this; omega
  have hx := key _ _ m1 m2 p1 p2
  have hy := key _ _ m1 m2 p3 p4
  have hz := key _ _ m1 m2 p5 p6
  unfold C3.le pv
  simp only
  omega
theorem Mild.fitd {n : Nat} {s : Int} {B : Nat → Bd} (h : Mild n s B) {i k : Nat} (hi : i < n) (hk : k < n) : Fits (B k).p (-1) (B i).p := by
  obtain ⟨⟨p1, p2⟩, ⟨p3, p4⟩, ⟨p5, p6⟩⟩ := h.p i hi
  obtain ⟨⟨q1, q2⟩, ⟨q3, q4⟩, ⟨q5, q6⟩⟩ := h.p k hk
  unfold Fits C3.le C3.more
  simp only
  omega

set_option maxRecDepth 100000 in
set_option maxHeartbeats 16000000 in
theorem kick_walk (g o n cap : Nat) (s : Int) (B : Nat → Bd) (w : World) (hr : Row w g o n B) (hm : Mild n s B) :
    Calls Tryd.prog 116 #[.slice (some ⟨g, o, none⟩) n cap, .int .i64 s] w (Wrote w g o n (kick n s B)) := by
  have HR := Lib.hid hr
  have HM := Lib.hid hm
  have hn := hm.hn
  clear hr hm
  go_enter Tryd.func116, Tryd.ntmps116
  go_wp2
  go_loopw [8] (fun v8 wr => ∃ i : Nat, i ≤ n ∧ v8 = .int .i64 i ∧ Row wr g o n (kiB n s B i 0) ∧ But g w wr) (fun i _ => n - (intOf i).toNat)
  case atStart => exact ⟨0, Nat.zero_le _, rfl, by rw [kiB_start]; exact HR.out, But.refl _ _⟩
  case round =>
    obtain ⟨i, hi, rfl, hrow, hbut⟩ := hrel
    have R := Lib.hid hrow
    have BT := Lib.hid hbut
    clear hrow hbut
    by_cases hlt : i < n
    · go_wp2
      go_loopw [13] (fun v13 wq => ∃ k : Nat, k ≤ n ∧ v13 = .int .i64 k ∧ Row wq g o n (kiB n s B i k) ∧ But g w wq) (fun i _ => n - (intOf i).toNat)
      case atStart => exact ⟨0, Nat.zero_le _, rfl, R.out, BT.out⟩
      case round =>
        clear R BT
        obtain ⟨k, hk, rfl, hrow, hbut⟩ := hrel
        have R := Lib.hid hrow
        have BT := Lib.hid hbut
        by_cases hkn : k < n
        · by_cases hik : i = k
          · subst hik
            clear hrow hbut
            go_wp2
            go_roundw
            case rel => exact ⟨i + 1, by omega, by go_num, by rw [← kiB_self]; exact R.out, BT.out⟩
            case measure => simp [intOf]; omega
          · obtain ⟨i0, i1, i2, i3, i4, i5, i6⟩ := hrow.body i hlt
            obtain ⟨k0, k1, k2, k3, k4, k5, k6⟩ := hrow.body k hkn
            rw [kiB_v] at i3 i4 i5
            have fz := hrow.frozen
            have hl := hrow.lt
            clear hrow hbut
            have ep : ∀ j, (kiB n s B i k j).p = (B j).p := fun j => rfl
            have em : ∀ j, (kiB n s B i k j).m = (B j).m := fun j => rfl
            rw [ep] at i0 i1 i2 k0 k1 k2
            rw [em] at k6
            clear k3 k4 k5 i6 ep em
            have A1 := Lib.hid (fun x => add_walk (B k).p (B i).p (-1) x (HM.out.fitd hlt hkn))
            have P1 := Lib.hid (fun x => pullC_walk ((B k).p.less (B i).p) x)
            have A2 := Lib.hid (fun x => add_walk (kv s B i k) (pv B i k) (s * (B k).m) x (HM.out.fits hlt hkn hik))
            rw [more_neg1] at A1
            have NX := Lib.hid (kiB_set n s B hik)
            obtain ⟨m1, m2⟩ := HM.out.sm hkn
            unfold pv at A2 NX
            generalize ((kv s B i k).more (s * (B k).m) (pullC ((B k).p.less (B i).p))) = nv at A2 NX
            generalize pullC ((B k).p.less (B i).p) = pl at P1 A2
            generalize (B k).p.less (B i).p = df at A1 P1
            generalize (B k).p = pk at k0 k1 k2 A1
            generalize (B i).p = pi at i0 i1 i2 A1
            generalize kv s B i k = vi at i3 i4 i5 A2
            generalize (B k).m = mk at k6 A2 m1 m2
            unfold vec at A1 P1 A2
            obtain ⟨dx, dy, dz⟩ := df
            obtain ⟨px, py, pz⟩ := pl
            obtain ⟨kx, ky, kz⟩ := pk
            obtain ⟨ix, iy, iz⟩ := pi
            obtain ⟨vx, vy, vz⟩ := vi
            simp only at i0 i1 i2 i3 i4 i5 k0 k1 k2 A1 P1 A2
            have ew : IntKind.i64.wrap (s * mk) = s * mk := IntWalk.i64_in _ (by omega)
            go_wp2
            refine Grow.wp_region_over_tail 29 (by kernel_rfl) (by kernel_rfl) ?_
            simp only [List.take_succ_cons, List.take_zero, List.drop_succ_cons, List.drop_zero]
            repeat (go_big_quiet_step (first | (go_at_call 70; with_reducible exact Calls.over_of (A1.out _)) | (go_at_call 70; with_reducible exact Calls.over_of (A2.out _)) | (go_at_call 141; with_reducible exact Calls.over_of (P1.out _))))
            refine wpQuiet_nil ?_
            intro x9 hz9
            have RX := Lib.hid (R.out.below (below_over wr x9))
            have BX := Lib.hid (BT.out.trans (But.of_below (below_over wr x9)))
            have fx := RX.out.frozen
            have hlx := RX.out.lt
            obtain ⟨_, _, _, d3, d4, d5, _⟩ := RX.out.body i hlt
            clear R BT i0 i1 i2 i3 i4 i5 k0 k1 k2 k6 fz hl
            generalize over wr x9 = w4 at *
            go_wp2
            go_roundw
            case rel =>
              refine ⟨k + 1, by omega, by go_num, ?_, but_set3 BX.out (o + i * 7 + 3) nv⟩
              rw [← NX.out]
              exact RX.out.setV hlt nv
            case measure => simp [intOf]; omega
        · obtain rfl : k = n := by omega
          clear hrow hbut
          go_wp2
          go_roundw
          case rel => exact ⟨i + 1, by omega, by go_num, by rw [← kiB_next]; exact R.out, BT.out⟩
          case measure => simp [intOf]; omega
    · obtain rfl : i = n := by omega
      go_wp2
      go_end0
      exact ⟨rfl, R.out.at (fun j hj => kiB_end i s B 0 j hj), BT.out⟩
end Go.Proofs.YtlfpfeidaohjmaaDoor
