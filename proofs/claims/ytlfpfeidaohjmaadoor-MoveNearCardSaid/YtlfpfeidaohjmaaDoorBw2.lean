/- The walks of the two roots and of the shares. -/
import Derived.Test.YtlfpfeidaohjmaaDoorChecked
import Derived.Test.YtlfpfeidaohjmaaDoorGrow
import Derived.Lib.Hide
import Derived.Test.YtlfpfeidaohjmaaDoorBr
namespace Go.Proofs.YtlfpfeidaohjmaaDoor
open Go.RowKit

theorem ret_int {k : IntKind} {a b : Int} (h : a = b) : Ending.returned (.int k a) = .returned (.int k b) := by rw [h]

set_option maxHeartbeats 1000000 in
theorem rootOf_walk (n : Nat) (w : World) :
    Calls Tryd.prog 148 #[.int .i64 n] w fun e w' => e = .returned (.int .i64 (isq n)) ∧ w' = w := by
  go_enter Tryd.func148, Tryd.ntmps148
  go_wp2
  go_loop [3, 4] (fun r b => ∃ R b' : Nat, IsqInv n R b' ∧ r = .int .i64 R ∧ b = .int .i64 b') (fun _ b => (intOf b).toNat)
  case atStart => exact ⟨0, 1073741824, .start n, rfl, rfl⟩
  case round =>
    obtain ⟨R, b, hI, rfl, rfl⟩ := hrel
    have hb := hI.bounds
    have hp' := cast_sq_le hb
    have hp0 := cast_sq_nonneg R b
    have hd := cast_sq_le_iff R b n
    have HD := Lib.hid hd
    clear hd
    by_cases hb0 : b = 0
    · subst hb0
      go_wp2
      go_ret
      exact ⟨ret_int (by rw [hI.done]), rfl⟩
    · by_cases hle : ((R : Int) + b) * (R + b) ≤ n
      all_goals
        go_wp2
        go_round
        case rel =>
          first
            | exact ⟨R + b, b / 2, hI.yes (by omega) (HD.out.1 hle), by go_num, by go_num⟩
            | exact ⟨R, b / 2, hI.no (by omega) (Nat.lt_of_not_le fun h => hle (HD.out.2 h)), by go_num, by go_num⟩
        case measure => simp [intOf]; omega

set_option maxHeartbeats 1000000 in
theorem root_walk (n : Nat) (hn : n < 4611686018427387904) (w : World) :
    Calls Tryd.prog 163 #[.int .i64 n] w fun e w' => e = .returned (.int .i64 (isq n)) ∧ w' = w := by
  by_cases h2 : n < 2
  · go_enter Tryd.func163, Tryd.ntmps163
    go_wp2
    go_ret
    exact ⟨ret_int (by rw [isq_small h2]), rfl⟩
  · go_enter Tryd.func163, Tryd.ntmps163
    go_wp2
    go_loop [3, 4] (fun x y => ∃ X Y : Nat, NewtonInv n X Y ∧ x = .int .i64 X ∧ y = .int .i64 Y) (fun x _ => (intOf x).toNat)
    case atStart => exact ⟨n, (n + 1) / 2, .start (by omega), rfl, by go_num⟩
    case round =>
      obtain ⟨X, Y, hI, rfl, rfl⟩ := hrel
      have h0 := hI.1
      have h1 := hI.2.1
      by_cases hy : Y < X
      · have hq : (n : Int) / Y ≤ n := Int.ediv_le_self _ (by omega)
        have hq0 : 0 ≤ (n : Int) / Y := Int.ediv_nonneg (by omega) (by omega)
        have hY : 0 < Y := (hI.step (by omega) hy).1
        have HI := Lib.hid hI
        clear hI
        go_wp2
        go_round
        case rel => exact ⟨Y, (Y + n / Y) / 2, HI.out.step (by omega) hy, rfl, by go_num⟩
        case measure => simp [intOf]; omega
      · have e := hI.stop hn (by omega)
        have E := Lib.hid e
        clear e hI
        go_wp2
        go_ret
        exact ⟨ret_int (by rw [E.out]), rfl⟩
end Go.Proofs.YtlfpfeidaohjmaaDoor
