/- The night's house: what instruments are and what methods they have. -/
import Derived.Test.YtjjjbkehmnfgbaaDoorNh2
import Derived.Stop.Asserts
set_option linter.unusedSimpArgs false
set_option linter.unusedVariables false
namespace Go.Proofs.YtjjjbkehmnfgbaaDoor
open Go.RowKit Go.Grow Go.Hs

theorem as_still_still (v : Value) (w : World) : (Instr.typeAssert (.iface 180 v) 71 180 true).run Tryd.prog w = .ok (.tuple #[v, .bool true]) w := by kernel_rfl
theorem as_still_hours (v : Value) (w : World) : (Instr.typeAssert (.iface 180 v) 71 183 true).run Tryd.prog w = .ok (.tuple #[.agg #[.slice none 0 0], .bool false]) w := by kernel_rfl
theorem as_still_fixed (v : Value) (w : World) : (Instr.typeAssert (.iface 180 v) 71 142 true).run Tryd.prog w = .ok (.tuple #[.agg #[.int .i64 0, .int .i64 0], .bool false]) w := by kernel_rfl
theorem as_still_roof (v : Value) (w : World) : (Instr.typeAssert (.iface 180 v) 71 185 true).run Tryd.prog w = .ok (.tuple #[.agg #[.slice none 0 0, .int .i64 0, .int .i64 0], .bool false]) w := by kernel_rfl
theorem as_hours_still (v : Value) (w : World) : (Instr.typeAssert (.iface 183 v) 71 180 true).run Tryd.prog w = .ok (.tuple #[.agg #[.int .i64 0, .int .i64 0, .slice none 0 0], .bool false]) w := by kernel_rfl
theorem as_hours_hours (v : Value) (w : World) : (Instr.typeAssert (.iface 183 v) 71 183 true).run Tryd.prog w = .ok (.tuple #[v, .bool true]) w := by kernel_rfl
theorem as_hours_fixed (v : Value) (w : World) : (Instr.typeAssert (.iface 183 v) 71 142 true).run Tryd.prog w = .ok (.tuple #[.agg #[.int .i64 0, .int .i64 0], .bool false]) w := by kernel_rfl
theorem as_hours_roof (v : Value) (w : World) : (Instr.typeAssert (.iface 183 v) 71 185 true).run Tryd.prog w = .ok (.tuple #[.agg #[.slice none 0 0, .int .i64 0, .int .i64 0], .bool false]) w := by kernel_rfl
theorem as_fixed_still (v : Value) (w : World) : (Instr.typeAssert (.iface 142 v) 71 180 true).run Tryd.prog w = .ok (.tuple #[.agg #[.int .i64 0, .int .i64 0, .slice none 0 0], .bool false]) w := by kernel_rfl
theorem as_fixed_hours (v : Value) (w : World) : (Instr.typeAssert (.iface 142 v) 71 183 true).run Tryd.prog w = .ok (.tuple #[.agg #[.slice none 0 0], .bool false]) w := by kernel_rfl
theorem as_fixed_fixed (v : Value) (w : World) : (Instr.typeAssert (.iface 142 v) 71 142 true).run Tryd.prog w = .ok (.tuple #[v, .bool true]) w := by kernel_rfl
theorem as_fixed_roof (v : Value) (w : World) : (Instr.typeAssert (.iface 142 v) 71 185 true).run Tryd.prog w = .ok (.tuple #[.agg #[.slice none 0 0, .int .i64 0, .int .i64 0], .bool false]) w := by kernel_rfl
theorem as_roof_still (v : Value) (w : World) : (Instr.typeAssert (.iface 185 v) 71 180 true).run Tryd.prog w = .ok (.tuple #[.agg #[.int .i64 0, .int .i64 0, .slice none 0 0], .bool false]) w := by kernel_rfl
theorem as_roof_hours (v : Value) (w : World) : (Instr.typeAssert (.iface 185 v) 71 183 true).run Tryd.prog w = .ok (.tuple #[.agg #[.slice none 0 0], .bool false]) w := by kernel_rfl
theorem as_roof_fixed (v : Value) (w : World) : (Instr.typeAssert (.iface 185 v) 71 142 true).run Tryd.prog w = .ok (.tuple #[.agg #[.int .i64 0, .int .i64 0], .bool false]) w := by kernel_rfl
theorem as_roof_roof (v : Value) (w : World) : (Instr.typeAssert (.iface 185 v) 71 185 true).run Tryd.prog w = .ok (.tuple #[v, .bool true]) w := by kernel_rfl
theorem as_nil_still (w : World) : (Instr.typeAssert .nilIface 71 180 true).run Tryd.prog w = .ok (.tuple #[.agg #[.int .i64 0, .int .i64 0, .slice none 0 0], .bool false]) w := by kernel_rfl
theorem as_nil_hours (w : World) : (Instr.typeAssert .nilIface 71 183 true).run Tryd.prog w = .ok (.tuple #[.agg #[.slice none 0 0], .bool false]) w := by kernel_rfl
theorem as_nil_fixed (w : World) : (Instr.typeAssert .nilIface 71 142 true).run Tryd.prog w = .ok (.tuple #[.agg #[.int .i64 0, .int .i64 0], .bool false]) w := by kernel_rfl
theorem as_nil_roof (w : World) : (Instr.typeAssert .nilIface 71 185 true).run Tryd.prog w = .ok (.tuple #[.agg #[.slice none 0 0, .int .i64 0, .int .i64 0], .bool false]) w := by kernel_rfl
theorem as_still_dome (v : Value) (w : World) : (Instr.typeAssert (.iface 180 v) 71 154 true).run Tryd.prog w = .ok (.tuple #[.nilIface, .bool false]) w := run_typeAssert_lacksB Tryd.underlying154 (by kernel_rfl) (by kernel_rfl) v 71 w
theorem as_hours_dome (v : Value) (w : World) : (Instr.typeAssert (.iface 183 v) 71 154 true).run Tryd.prog w = .ok (.tuple #[.iface 183 v, .bool true]) w := run_typeAssert_hasB Tryd.underlying154 (by kernel_rfl) v 71 w
theorem as_fixed_dome (v : Value) (w : World) : (Instr.typeAssert (.iface 142 v) 71 154 true).run Tryd.prog w = .ok (.tuple #[.nilIface, .bool false]) w := run_typeAssert_lacksB Tryd.underlying154 (by kernel_rfl) (by kernel_rfl) v 71 w
theorem as_roof_dome (v : Value) (w : World) : (Instr.typeAssert (.iface 185 v) 71 154 true).run Tryd.prog w = .ok (.tuple #[.iface 185 v, .bool true]) w := run_typeAssert_hasB Tryd.underlying154 (by kernel_rfl) v 71 w
theorem as_still_pointer (v : Value) (w : World) : (Instr.typeAssert (.iface 180 v) 71 157 true).run Tryd.prog w = .ok (.tuple #[.nilIface, .bool false]) w := run_typeAssert_lacksB Tryd.underlying157 (by kernel_rfl) (by kernel_rfl) v 71 w
theorem as_hours_pointer (v : Value) (w : World) : (Instr.typeAssert (.iface 183 v) 71 157 true).run Tryd.prog w = .ok (.tuple #[.nilIface, .bool false]) w := run_typeAssert_lacksB Tryd.underlying157 (by kernel_rfl) (by kernel_rfl) v 71 w
theorem as_fixed_pointer (v : Value) (w : World) : (Instr.typeAssert (.iface 142 v) 71 157 true).run Tryd.prog w = .ok (.tuple #[.iface 142 v, .bool true]) w := run_typeAssert_hasB Tryd.underlying157 (by kernel_rfl) v 71 w
theorem as_roof_pointer (v : Value) (w : World) : (Instr.typeAssert (.iface 185 v) 71 157 true).run Tryd.prog w = .ok (.tuple #[.iface 185 v, .bool true]) w := run_typeAssert_hasB Tryd.underlying157 (by kernel_rfl) v 71 w
theorem as_still_camera (v : Value) (w : World) : (Instr.typeAssert (.iface 180 v) 71 161 true).run Tryd.prog w = .ok (.tuple #[.iface 180 v, .bool true]) w := run_typeAssert_hasB Tryd.underlying161 (by kernel_rfl) v 71 w
theorem as_hours_camera (v : Value) (w : World) : (Instr.typeAssert (.iface 183 v) 71 161 true).run Tryd.prog w = .ok (.tuple #[.nilIface, .bool false]) w := run_typeAssert_lacksB Tryd.underlying161 (by kernel_rfl) (by kernel_rfl) v 71 w
theorem as_fixed_camera (v : Value) (w : World) : (Instr.typeAssert (.iface 142 v) 71 161 true).run Tryd.prog w = .ok (.tuple #[.nilIface, .bool false]) w := run_typeAssert_lacksB Tryd.underlying161 (by kernel_rfl) (by kernel_rfl) v 71 w
theorem as_roof_camera (v : Value) (w : World) : (Instr.typeAssert (.iface 185 v) 71 161 true).run Tryd.prog w = .ok (.tuple #[.nilIface, .bool false]) w := run_typeAssert_lacksB Tryd.underlying161 (by kernel_rfl) (by kernel_rfl) v 71 w
theorem kind_still (v : Value) (w : World) : (method 383 180 v "Kind").run Tryd.prog w = .ok (145, v) w := by kernel_rfl
theorem kind_hours (v : Value) (w : World) : (method 383 183 v "Kind").run Tryd.prog w = .ok (147, v) w := by kernel_rfl
theorem kind_fixed (v : Value) (w : World) : (method 383 142 v "Kind").run Tryd.prog w = .ok (141, v) w := by kernel_rfl
theorem kind_roof (v : Value) (w : World) : (method 383 185 v "Kind").run Tryd.prog w = .ok (150, v) w := by kernel_rfl
theorem open_hours (v : Value) (w : World) : (method 383 183 v "meridian/night.open").run Tryd.prog w = .ok (148, v) w := by kernel_rfl
theorem open_roof (a b c : Value) (w : World) : (method 383 185 (.agg #[a, b, c]) "meridian/night.open").run Tryd.prog w = .ok (148, .agg #[a]) w := by kernel_rfl
theorem point_fixed (v : Value) (w : World) : (method 383 142 v "meridian/night.point").run Tryd.prog w = .ok (142, v) w := by kernel_rfl
theorem point_roof (a b c : Value) (w : World) : (method 383 185 (.agg #[a, b, c]) "meridian/night.point").run Tryd.prog w = .ok (142, .agg #[b, c]) w := by kernel_rfl
theorem shoot_still (v : Value) (w : World) : (method 383 180 v "meridian/night.shoot").run Tryd.prog w = .ok (146, v) w := by kernel_rfl
set_option maxRecDepth 100000 in
set_option maxHeartbeats 8000000 in
theorem kindOf_walk (t : Tl) (x : Value) (w : World) (h : InsAt w t x) :
    Calls Tryd.prog 29 #[x] w fun e w' => e = .returned (.string (kindS t.kind)) ∧ Below w.heap.size w w' := by
  cases h with
  | still h r c hr =>
    have HK := Lib.hid (show kindS t.kind = kCam by unfold kindS; rw [h]; rfl)
    have hm := kind_still
    rw [HK.out]
    go_enter Tryd.func29, Tryd.ntmps29
    go_wp2
    go_ret
    exact ⟨rfl, (by (repeat (with_reducible first | exact grow_refl _ | refine Grow.grow_drewN ?_ _ | refine Grow.grow_drew ?_ | refine Grow.grow_alloc ?_ _)))⟩
  | hours h r c hr =>
    have HK := Lib.hid (show kindS t.kind = kDome by unfold kindS; rw [h]; rfl)
    have hm := kind_hours
    rw [HK.out]
    go_enter Tryd.func29, Tryd.ntmps29
    go_wp2
    go_ret
    exact ⟨rfl, (by (repeat (with_reducible first | exact grow_refl _ | refine Grow.grow_drewN ?_ _ | refine Grow.grow_drew ?_ | refine Grow.grow_alloc ?_ _)))⟩
  | fixed h =>
    have HK := Lib.hid (show kindS t.kind = kPtr by unfold kindS; rw [h]; rfl)
    have hm := kind_fixed
    rw [HK.out]
    go_enter Tryd.func29, Tryd.ntmps29
    go_wp2
    go_ret
    exact ⟨rfl, (by (repeat (with_reducible first | exact grow_refl _ | refine Grow.grow_drewN ?_ _ | refine Grow.grow_drew ?_ | refine Grow.grow_alloc ?_ _)))⟩
  | roof h r c hr =>
    have HK := Lib.hid (show kindS t.kind = kRoof by unfold kindS; rw [h]; rfl)
    have hm := kind_roof
    rw [HK.out]
    go_enter Tryd.func29, Tryd.ntmps29
    go_wp2
    go_ret
    exact ⟨rfl, (by (repeat (with_reducible first | exact grow_refl _ | refine Grow.grow_drewN ?_ _ | refine Grow.grow_drew ?_ | refine Grow.grow_alloc ?_ _)))⟩
  | none h =>
    have HK := Lib.hid (show kindS t.kind = .empty by unfold kindS; rw [if_neg (by omega), if_neg (by omega), if_neg (by omega), if_neg (by omega)])
    rw [HK.out]
    go_enter Tryd.func29, Tryd.ntmps29
    go_wp2
    go_ret
    exact ⟨rfl, (by (repeat (with_reducible first | exact grow_refl _ | refine Grow.grow_drewN ?_ _ | refine Grow.grow_drew ?_ | refine Grow.grow_alloc ?_ _)))⟩
set_option maxRecDepth 100000 in
set_option maxHeartbeats 8000000 in
theorem ours_walk (t : Tl) (x : Value) (w : World) (h : InsAt w t x) :
    Calls Tryd.prog 67 #[x] w fun e w' => e = .returned (.bool (decide (1 ≤ t.kind ∧ t.kind ≤ 4))) ∧ Below w.heap.size w w' := by
  cases h with
  | still h r c hr =>
    have HK := Lib.hid (show decide (1 ≤ t.kind ∧ t.kind ≤ 4) = true from decide_eq_true (by omega))
    rw [HK.out]
    have h1 := as_still_still
    have h2 := as_still_hours
    have h3 := as_still_fixed
    have h4 := as_still_roof
    go_enter Tryd.func67, Tryd.ntmps67
    go_wp2
    go_ret
    exact ⟨rfl, grow_refl _⟩
  | hours h r c hr =>
    have HK := Lib.hid (show decide (1 ≤ t.kind ∧ t.kind ≤ 4) = true from decide_eq_true (by omega))
    rw [HK.out]
    have h1 := as_hours_still
    have h2 := as_hours_hours
    have h3 := as_hours_fixed
    have h4 := as_hours_roof
    go_enter Tryd.func67, Tryd.ntmps67
    go_wp2
    go_ret
    exact ⟨rfl, grow_refl _⟩
  | fixed h =>
    have HK := Lib.hid (show decide (1 ≤ t.kind ∧ t.kind ≤ 4) = true from decide_eq_true (by omega))
    rw [HK.out]
    have h1 := as_fixed_still
    have h2 := as_fixed_hours
    have h3 := as_fixed_fixed
    have h4 := as_fixed_roof
    go_enter Tryd.func67, Tryd.ntmps67
    go_wp2
    go_ret
    exact ⟨rfl, grow_refl _⟩
  | roof h r c hr =>
    have HK := Lib.hid (show decide (1 ≤ t.kind ∧ t.kind ≤ 4) = true from decide_eq_true (by omega))
    rw [HK.out]
    have h1 := as_roof_still
    have h2 := as_roof_hours
    have h3 := as_roof_fixed
    have h4 := as_roof_roof
    go_enter Tryd.func67, Tryd.ntmps67
    go_wp2
    go_ret
    exact ⟨rfl, grow_refl _⟩
  | none h =>
    have HK := Lib.hid (show decide (1 ≤ t.kind ∧ t.kind ≤ 4) = false from decide_eq_false (by omega))
    rw [HK.out]
    have h1 := as_nil_still
    have h2 := as_nil_hours
    have h3 := as_nil_fixed
    have h4 := as_nil_roof
    go_enter Tryd.func67, Tryd.ntmps67
    go_wp2
    go_ret
    exact ⟨rfl, grow_refl _⟩
end Go.Proofs.YtjjjbkehmnfgbaaDoor
